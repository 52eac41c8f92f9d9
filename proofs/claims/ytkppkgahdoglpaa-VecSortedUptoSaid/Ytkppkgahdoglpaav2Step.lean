/- The D-machine, part 2: what one operation does (SStep), and its rules for operations that make no memory. -/
import Derived.Laws.Strings
import Derived.Test.Ytkppkgahdoglpaav1Base
namespace Go.Proofs.Ytkppkgahdoglpaa
open Go.RowKit
def SStep (P : Program) (o : Oper) (e : Operand → D) (m : Mem) (rd : List Nat) (val : D) (wr : Mem) : Prop :=
  ∀ (C : Cf) (m' : Mem) (a : Act) (next : Act → World → Prop) (Q : Exit → Act → World → Prop),
    (∀ g, g ∈ rd ∨ g ∈ wr.map (·.1) → m'.at g = m.at g) → HoldsM C m' → (∀ x, x ∈ o.op.operands → RdD C m' (e x) (a.eval x)) →
    (∀ v C', Step C m' C' (wr ++ m') → RdD C' (wr ++ m') val v → next (a.put o.dst v) C'.w) → o.wp P a C.w next Q
theorem wp_of_value {P : Program} {o : Oper} {a : Act} {w w' : World} {next : Act → World → Prop} {Q : Exit → Act → World → Prop} {v : Value}
    (h : (execOp a.eval o).run P w = .ok (.value v) w') (hn : next (a.put o.dst v) w') : o.wp P a w next Q := by
  unfold Oper.wp; rw [h]; exact hn
theorem wp_of_skip {P : Program} {o : Oper} {a : Act} {w w' : World} {next : Act → World → Prop} {Q : Exit → Act → World → Prop}
    (h : (execOp a.eval o).run P w = .ok .skip w') (hn : next (a.put o.dst undef) w') : o.wp P a w next Q := by
  unfold Oper.wp; rw [h]; exact hn
theorem SStep.pure {P : Program} {o : Oper} {e : Operand → D} {m : Mem} {rd : List Nat} {val : D}
    (h : ∀ (C : Cf) (m' : Mem) (a : Act), (∀ g, g ∈ rd → m'.at g = m.at g) → HoldsM C m' → (∀ x, x ∈ o.op.operands → RdD C m' (e x) (a.eval x)) →
      ∃ v, (execOp a.eval o).run P C.w = .ok (.value v) C.w ∧ RdD C m' val v) : SStep P o e m rd val [] := by
  intro C m' a next Q ha hm hx hn
  obtain ⟨v, hr, hv⟩ := h C m' a (fun g hg => ha g (.inl hg)) hm hx
  exact wp_of_value hr (hn v C (Step.refl hm) hv)
theorem rd_int {C : Cf} {m : Mem} {n : Bool} {k : IntKind} {i : Int} {v : Value} (h : RdD C m (.dat n (.int k i)) v) : v = .int k i := by
  cases h; rfl
theorem rd_bool {C : Cf} {m : Mem} {n : Bool} {b : Bool} {v : Value} (h : RdD C m (.dat n (.bool b)) v) : v = .bool b := by
  cases h; rfl
theorem rd_str {C : Cf} {m : Mem} {n : Bool} {s : List UInt8} {v : Value} (h : RdD C m (.dat n (.str s)) v) : v = .string ⟨s.toArray⟩ := by
  cases h; rfl
theorem mk_int {C : Cf} {m : Mem} {n : Bool} {k : IntKind} {i : Int} : RdD C m (.dat n (.int k i)) (.int k i) := Rd.int k i
theorem mk_bool {C : Cf} {m : Mem} {n : Bool} {b : Bool} : RdD C m (.dat n (.bool b)) (.bool b) := Rd.bool b
def _root_.Go.IntKind.andI (k : IntKind) (a b : Int) : Int := k.wrap (BitVec.ofInt k.bits a &&& BitVec.ofInt k.bits b).toNat
def _root_.Go.IntKind.orI (k : IntKind) (a b : Int) : Int := k.wrap (BitVec.ofInt k.bits a ||| BitVec.ofInt k.bits b).toNat
def _root_.Go.IntKind.xorI (k : IntKind) (a b : Int) : Int := k.wrap (BitVec.ofInt k.bits a ^^^ BitVec.ofInt k.bits b).toNat
def _root_.Go.IntKind.andNotI (k : IntKind) (a b : Int) : Int := k.wrap (BitVec.ofInt k.bits a &&& ~~~BitVec.ofInt k.bits b).toNat
def _root_.Go.IntKind.shlI (k : IntKind) (a b : Int) : Int := k.wrap (a * 2 ^ (min b.toNat k.bits))
def _root_.Go.IntKind.shrI (k : IntKind) (a b : Int) : Int := a.fdiv (2 ^ (min b.toNat k.bits))
section
variable {P : Program} {e : Operand → D} {m : Mem} {dst : Option Tmp} {ty : TypeId} {pos : String} {af : Array Edge} {gd : Option (Nat × Bool)} {x y z : Operand} {t : TypeId} {yt : TypeId}
theorem S_move : SStep P ⟨dst, .move x, ty, pos, af, gd⟩ e m [] (e x) [] :=
  .pure fun C m' a _ _ hx => ⟨a.eval x, by simp [execOp], hx x (by simp [Op.operands])⟩
theorem S_assign : SStep P ⟨dst, .assign x, ty, pos, af, gd⟩ e m [] (e x) [] :=
  .pure fun C m' a _ _ hx => ⟨a.eval x, by simp [execOp], hx x (by simp [Op.operands])⟩
theorem S_not {n : Bool} {b : Bool} (h : e x = .dat n (.bool b)) : SStep P ⟨dst, .unOp .not t x, ty, pos, af, gd⟩ e m [] (.dat true (.bool (!b))) [] :=
  .pure fun C m' a _ _ hx => by
    have h1 := hx x (by simp [Op.operands]); rw [h] at h1
    exact ⟨.bool (!b), by simp [execOp, rd_bool h1, Op.unary], mk_bool⟩
theorem S_int {op : BinOp} {n1 n2 : Bool} {k : IntKind} {a b : Int} {r : Value} {R : D} (h1 : e x = .dat n1 (.int k a)) (h2 : e y = .dat n2 (.int k b))
    (hr : ∀ w, (binOp op t (.int k a) (.int k b)).run P w = .ok r w) (hR : ∀ C m, RdD C m R r) :
    SStep P ⟨dst, .binOp op t x y yt, ty, pos, af, gd⟩ e m [] R [] :=
  .pure fun C m' ac _ _ hx => by
    have g1 := hx x (by simp [Op.operands]); rw [h1] at g1
    have g2 := hx y (by simp [Op.operands]); rw [h2] at g2
    refine ⟨r, ?_, hR _ _⟩
    simp only [execOp, rd_int g1, rd_int g2]
    cases op <;> simp [eqGuard, hr]
theorem S_add {n1 n2 : Bool} {k : IntKind} {a b : Int} (h1 : e x = .dat n1 (.int k a)) (h2 : e y = .dat n2 (.int k b)) :
    SStep P ⟨dst, .binOp .add t x y yt, ty, pos, af, gd⟩ e m [] (.dat true (.int k (k.wrap (a + b)))) [] := S_int h1 h2 (fun w => by simp [binOp, Op.intArith]) (fun _ _ => mk_int)
theorem S_sub {n1 n2 : Bool} {k : IntKind} {a b : Int} (h1 : e x = .dat n1 (.int k a)) (h2 : e y = .dat n2 (.int k b)) :
    SStep P ⟨dst, .binOp .sub t x y yt, ty, pos, af, gd⟩ e m [] (.dat true (.int k (k.wrap (a - b)))) [] := S_int h1 h2 (fun w => by simp [binOp, Op.intArith]) (fun _ _ => mk_int)
theorem S_mul {n1 n2 : Bool} {k : IntKind} {a b : Int} (h1 : e x = .dat n1 (.int k a)) (h2 : e y = .dat n2 (.int k b)) :
    SStep P ⟨dst, .binOp .mul t x y yt, ty, pos, af, gd⟩ e m [] (.dat true (.int k (k.wrap (a * b)))) [] := S_int h1 h2 (fun w => by simp [binOp, Op.intArith]) (fun _ _ => mk_int)
theorem S_quo {n1 n2 : Bool} {k : IntKind} {a b : Int} (h1 : e x = .dat n1 (.int k a)) (h2 : e y = .dat n2 (.int k b)) (hb : b ≠ 0) :
    SStep P ⟨dst, .binOp .quo t x y yt, ty, pos, af, gd⟩ e m [] (.dat true (.int k (k.wrap (a.tdiv b)))) [] := S_int h1 h2 (fun w => by simp [binOp, Op.intDiv, hb]) (fun _ _ => mk_int)
theorem S_rem {n1 n2 : Bool} {k : IntKind} {a b : Int} (h1 : e x = .dat n1 (.int k a)) (h2 : e y = .dat n2 (.int k b)) (hb : b ≠ 0) :
    SStep P ⟨dst, .binOp .rem t x y yt, ty, pos, af, gd⟩ e m [] (.dat true (.int k (a.tmod b))) [] := S_int h1 h2 (fun w => by simp [binOp, Op.intDiv, hb]) (fun _ _ => mk_int)
theorem S_and {n1 n2 : Bool} {k : IntKind} {a b : Int} (h1 : e x = .dat n1 (.int k a)) (h2 : e y = .dat n2 (.int k b)) :
    SStep P ⟨dst, .binOp .and t x y yt, ty, pos, af, gd⟩ e m [] (.dat true (.int k (k.andI a b))) [] := S_int h1 h2 (fun w => by simp [binOp, Op.intBits, IntKind.andI]) (fun _ _ => mk_int)
theorem S_or {n1 n2 : Bool} {k : IntKind} {a b : Int} (h1 : e x = .dat n1 (.int k a)) (h2 : e y = .dat n2 (.int k b)) :
    SStep P ⟨dst, .binOp .or t x y yt, ty, pos, af, gd⟩ e m [] (.dat true (.int k (k.orI a b))) [] := S_int h1 h2 (fun w => by simp [binOp, Op.intBits, IntKind.orI]) (fun _ _ => mk_int)
theorem S_xor {n1 n2 : Bool} {k : IntKind} {a b : Int} (h1 : e x = .dat n1 (.int k a)) (h2 : e y = .dat n2 (.int k b)) :
    SStep P ⟨dst, .binOp .xor t x y yt, ty, pos, af, gd⟩ e m [] (.dat true (.int k (k.xorI a b))) [] := S_int h1 h2 (fun w => by simp [binOp, Op.intBits, IntKind.xorI]) (fun _ _ => mk_int)
theorem S_andNot {n1 n2 : Bool} {k : IntKind} {a b : Int} (h1 : e x = .dat n1 (.int k a)) (h2 : e y = .dat n2 (.int k b)) :
    SStep P ⟨dst, .binOp .andNot t x y yt, ty, pos, af, gd⟩ e m [] (.dat true (.int k (k.andNotI a b))) [] := S_int h1 h2 (fun w => by simp [binOp, Op.intBits, IntKind.andNotI]) (fun _ _ => mk_int)
theorem S_eql {n1 n2 : Bool} {k : IntKind} {a b : Int} (h1 : e x = .dat n1 (.int k a)) (h2 : e y = .dat n2 (.int k b)) :
    SStep P ⟨dst, .binOp .eql t x y yt, ty, pos, af, gd⟩ e m [] (.dat true (.bool (decide (a = b)))) [] := S_int h1 h2 (fun w => by simp [binOp, Op.intCmp]; rfl) (fun _ _ => mk_bool)
theorem S_neq {n1 n2 : Bool} {k : IntKind} {a b : Int} (h1 : e x = .dat n1 (.int k a)) (h2 : e y = .dat n2 (.int k b)) :
    SStep P ⟨dst, .binOp .neq t x y yt, ty, pos, af, gd⟩ e m [] (.dat true (.bool (decide (a ≠ b)))) [] := S_int h1 h2 (fun w => by simp [binOp, Op.intCmp]; rfl) (fun _ _ => mk_bool)
theorem S_lss {n1 n2 : Bool} {k : IntKind} {a b : Int} (h1 : e x = .dat n1 (.int k a)) (h2 : e y = .dat n2 (.int k b)) :
    SStep P ⟨dst, .binOp .lss t x y yt, ty, pos, af, gd⟩ e m [] (.dat true (.bool (decide (a < b)))) [] := S_int h1 h2 (fun w => by simp [binOp, Op.intCmp]) (fun _ _ => mk_bool)
theorem S_leq {n1 n2 : Bool} {k : IntKind} {a b : Int} (h1 : e x = .dat n1 (.int k a)) (h2 : e y = .dat n2 (.int k b)) :
    SStep P ⟨dst, .binOp .leq t x y yt, ty, pos, af, gd⟩ e m [] (.dat true (.bool (decide (a ≤ b)))) [] := S_int h1 h2 (fun w => by simp [binOp, Op.intCmp]) (fun _ _ => mk_bool)
theorem S_gtr {n1 n2 : Bool} {k : IntKind} {a b : Int} (h1 : e x = .dat n1 (.int k a)) (h2 : e y = .dat n2 (.int k b)) :
    SStep P ⟨dst, .binOp .gtr t x y yt, ty, pos, af, gd⟩ e m [] (.dat true (.bool (decide (b < a)))) [] := S_int h1 h2 (fun w => by simp [binOp, Op.intCmp]) (fun _ _ => mk_bool)
theorem S_geq {n1 n2 : Bool} {k : IntKind} {a b : Int} (h1 : e x = .dat n1 (.int k a)) (h2 : e y = .dat n2 (.int k b)) :
    SStep P ⟨dst, .binOp .geq t x y yt, ty, pos, af, gd⟩ e m [] (.dat true (.bool (decide (b ≤ a)))) [] := S_int h1 h2 (fun w => by simp [binOp, Op.intCmp]) (fun _ _ => mk_bool)
theorem S_sh {op : BinOp} {n1 n2 : Bool} {k k' : IntKind} {a b : Int} {r : Value} {R : D} (h1 : e x = .dat n1 (.int k a)) (h2 : e y = .dat n2 (.int k' b))
    (hr : ∀ w, (binOp op t (.int k a) (.int k' b)).run P w = .ok r w) (hR : ∀ C m, RdD C m R r) :
    SStep P ⟨dst, .binOp op t x y yt, ty, pos, af, gd⟩ e m [] R [] :=
  .pure fun C m' ac _ _ hx => by
    have g1 := hx x (by simp [Op.operands]); rw [h1] at g1
    have g2 := hx y (by simp [Op.operands]); rw [h2] at g2
    refine ⟨r, ?_, hR _ _⟩
    simp only [execOp, rd_int g1, rd_int g2]
    cases op <;> simp [eqGuard, hr]
theorem S_shl {n1 n2 : Bool} {k k' : IntKind} {a b : Int} (h1 : e x = .dat n1 (.int k a)) (h2 : e y = .dat n2 (.int k' b)) (hb : 0 ≤ b) :
    SStep P ⟨dst, .binOp .shl t x y yt, ty, pos, af, gd⟩ e m [] (.dat true (.int k (k.shlI a b))) [] :=
  S_sh h1 h2 (fun w => by simp [binOp, Op.shift, Int.not_lt.2 hb, IntKind.shlI]) (fun _ _ => mk_int)
theorem S_shr {n1 n2 : Bool} {k k' : IntKind} {a b : Int} (h1 : e x = .dat n1 (.int k a)) (h2 : e y = .dat n2 (.int k' b)) (hb : 0 ≤ b) :
    SStep P ⟨dst, .binOp .shr t x y yt, ty, pos, af, gd⟩ e m [] (.dat true (.int k (k.shrI a b))) [] :=
  S_sh h1 h2 (fun w => by simp [binOp, Op.shift, Int.not_lt.2 hb, IntKind.shrI]) (fun _ _ => mk_int)
theorem equal_bool (w : World) {a b : Bool} (ht : P.underlying t = some .bool) : (Op.equal t (.bool a) (.bool b)).run P w = .ok (a == b) w := by
  have h : ∀ d : Nat, (Op.equalIn (d + 1) t (.bool a) (.bool b)).run P w = .ok (a == b) w := fun d => by
    simp [Op.equalIn, underlying, program, Sem.run, ht]
  exact h 9999
theorem binOp_eql_bool {a b : Bool} : binOp .eql t (.bool a) (.bool b) = (do pure (.bool (← Op.equal t (.bool a) (.bool b)))) := by rfl
theorem binOp_neq_bool {a b : Bool} : binOp .neq t (.bool a) (.bool b) = (do pure (.bool (!(← Op.equal t (.bool a) (.bool b))))) := by rfl
theorem S_eqlb {n1 n2 : Bool} {a b : Bool} (ht : P.underlying t = some .bool) (h1 : e x = .dat n1 (.bool a)) (h2 : e y = .dat n2 (.bool b)) :
    SStep P ⟨dst, .binOp .eql t x y yt, ty, pos, af, gd⟩ e m [] (.dat true (.bool (a == b))) [] :=
  .pure fun C m' ac _ _ hx => by
    have g1 := hx x (by simp [Op.operands]); rw [h1] at g1
    have g2 := hx y (by simp [Op.operands]); rw [h2] at g2
    refine ⟨.bool (a == b), ?_, mk_bool⟩
    simp only [execOp, rd_bool g1, rd_bool g2, eqGuard, binOp_eql_bool]
    simp [equal_bool, ht]
theorem S_neqb {n1 n2 : Bool} {a b : Bool} (ht : P.underlying t = some .bool) (h1 : e x = .dat n1 (.bool a)) (h2 : e y = .dat n2 (.bool b)) :
    SStep P ⟨dst, .binOp .neq t x y yt, ty, pos, af, gd⟩ e m [] (.dat true (.bool (a != b))) [] :=
  .pure fun C m' ac _ _ hx => by
    have g1 := hx x (by simp [Op.operands]); rw [h1] at g1
    have g2 := hx y (by simp [Op.operands]); rw [h2] at g2
    refine ⟨.bool (a != b), ?_, mk_bool⟩
    simp only [execOp, rd_bool g1, rd_bool g2, eqGuard, binOp_neq_bool]
    simp [equal_bool, ht, bne]
theorem S_eqls {n1 n2 : Bool} {a b : List UInt8} (h1 : e x = .dat n1 (.str a)) (h2 : e y = .dat n2 (.str b)) :
    SStep P ⟨dst, .binOp .eql t x y yt, ty, pos, af, gd⟩ e m [] (.dat true (.bool (decide (a = b)))) [] :=
  .pure fun C m' ac _ _ hx => by
    have g1 := hx x (by simp [Op.operands]); rw [h1] at g1
    have g2 := hx y (by simp [Op.operands]); rw [h2] at g2
    refine ⟨.bool (decide (a = b)), ?_, mk_bool⟩
    simp [execOp, rd_str g1, rd_str g2, eqGuard, binOp, Op.stringOp, ByteArray.toList_mk]
    by_cases hab : a = b <;> simp [hab]
theorem S_neqs {n1 n2 : Bool} {a b : List UInt8} (h1 : e x = .dat n1 (.str a)) (h2 : e y = .dat n2 (.str b)) :
    SStep P ⟨dst, .binOp .neq t x y yt, ty, pos, af, gd⟩ e m [] (.dat true (.bool (decide (a ≠ b)))) [] :=
  .pure fun C m' ac _ _ hx => by
    have g1 := hx x (by simp [Op.operands]); rw [h1] at g1
    have g2 := hx y (by simp [Op.operands]); rw [h2] at g2
    refine ⟨.bool (decide (a ≠ b)), ?_, mk_bool⟩
    simp [execOp, rd_str g1, rd_str g2, eqGuard, binOp, Op.stringOp, ByteArray.toList_mk]
    by_cases hab : a = b <;> simp [hab]
theorem S_toInt {n : Bool} {k k' : IntKind} {s : TypeId} {sd : TypeDesc} {a : Int} (hs : P.underlying s = some sd) (ht : P.underlying t = some (.int k')) (h : e x = .dat n (.int k a)) :
    SStep P ⟨dst, .convert s t x, ty, pos, af, gd⟩ e m [] (.dat true (.int k' (k'.wrap a))) [] :=
  .pure fun C m' ac _ _ hx => by
    have g1 := hx x (by simp [Op.operands]); rw [h] at g1
    refine ⟨.int k' (k'.wrap a), ?_, mk_int⟩
    simp [execOp, rd_int g1, convert, underlying, program, Sem.run, hs, ht, Conv.intToInt]
theorem S_nilCheck_rp {n : Bool} {cs : List V} (h : e x = .dat n (.rp cs)) : SStep P ⟨dst, .nilCheck x, ty, pos, af, gd⟩ e m [] (.dat n (.rp cs)) [] :=
  .pure fun C m' ac _ _ hx => by
    have g1 := hx x (by simp [Op.operands]); rw [h] at g1
    refine ⟨ac.eval x, ?_, g1⟩
    generalize hv : ac.eval x = v at g1
    cases g1
    simp [execOp, hv]
theorem S_nilCheck_fn {n : Bool} {f : FuncId} {cs : List V} (h : e x = .dat n (.fn f cs)) : SStep P ⟨dst, .nilCheck x, ty, pos, af, gd⟩ e m [] (.dat n (.fn f cs)) [] :=
  .pure fun C m' ac _ _ hx => by
    have g1 := hx x (by simp [Op.operands]); rw [h] at g1
    refine ⟨ac.eval x, ?_, g1⟩
    generalize hv : ac.eval x = v at g1
    cases g1
    simp [execOp, hv]
theorem S_nilCheck_ptr {g off : Nat} (h : e x = .ptr g off) : SStep P ⟨dst, .nilCheck x, ty, pos, af, gd⟩ e m [] (.ptr g off) [] :=
  .pure fun C m' ac _ _ hx => by
    have g1 := hx x (by simp [Op.operands]); rw [h] at g1
    refine ⟨ac.eval x, ?_, g1⟩
    obtain ⟨_, _, _, b, _, _, hv⟩ := g1
    simp [execOp, hv]
theorem S_extract {n : Bool} {cs : List V} {i : Nat} {d : V} (h : e x = .dat n (.tuple cs)) (hi : cs[i]? = some d) :
    SStep P ⟨dst, .extract x i, ty, pos, af, gd⟩ e m [] (.dat n d) [] :=
  .pure fun C m' ac _ _ hx => by
    have g1 := hx x (by simp [Op.operands]); rw [h] at g1
    generalize hv : ac.eval x = v at g1
    cases g1 with
    | tuple _ vs hl hr =>
      have hlt : i < vs.size := by
        have := (List.getElem?_eq_some_iff.1 hi).1
        omega
      have hg : vs[i]? = some vs[i] := Array.getElem?_eq_getElem hlt
      exact ⟨vs[i], by simp [execOp, hv, Instr.extract, hg], hr i d _ hi hg⟩
end
end Go.Proofs.Ytkppkgahdoglpaa
