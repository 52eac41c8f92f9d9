/- One relation for all operations that write nothing: a walk finds the rule by the shape of its operands. -/
import Derived.Test.YtkppkgahdoglpaavbEq
import Derived.Test.YtkppkgahdoglpaavbMake
namespace Go.Proofs.Ytkppkgahdoglpaa
open Go.RowKit
inductive Wr (k : IntKind) (a : Int) : Int → Prop
  | inK (h : InK k a) : Wr k a a
  | wr : Wr k a (k.wrap a)
inductive Cpy : D → D → Prop
  | dat {n : Bool} {x : V} : Cpy (.dat n x) (.dat n x)
  | ptr {g o : Nat} : Cpy (.ptr g o) (.ptr g o)
  | own {g v l n : Nat} : Cpy (.own g v l n) (.own g v l n)
  | nil : Cpy .nil .nil
  | rptr {g v i o : Nat} : Cpy (.rptr g v i o) (.rptr g v i o)
  | aggd {cs : List D} : Cpy (.aggd cs) (.aggd cs)
  | mp {g : Nat} : Cpy (.mp g) (.mp g)
  | sl {g n : Nat} : Cpy (.sl g n) (.sl g n)
  | fnd {f : FuncId} {cs : List D} : Cpy (.fnd f cs) (.fnd f cs)
inductive Ldg (P : Program) (m : Mem) (t : TypeId) : D → List Nat → D → Prop
  | rp {n agg : Bool} {s by_ : Nat} {zs cs : List V} {r : V} [ht : TyI P t agg s by_ zs] (hr : ldV agg s cs = some r) : Ldg P m t (.dat n (.rp cs)) [] (.dat n r)
  | ptr {frz nw : Bool} {s by_ g off : Nat} {zs : List V} {cs : List D} {d : D} [ht : TyI P t false s by_ zs] (hm : m.at g = .cells frz nw cs) (hc : cs[off]? = some d) : Ldg P m t (.ptr g off) [g] d
  | ptrs {frz nw : Bool} {s by_ g off : Nat} {zs : List V} {cs : List D} [ht : TyI P t true s by_ zs] (hm : m.at g = .cells frz nw cs) (hl : Nat.ble (off + s) cs.length = true) : Ldg P m t (.ptr g off) [g] (.aggd ((cs.drop off).take s))
  | rptr {frz nw agg : Bool} {s by_ g ver i off sz : Nat} {zs : List V} {xs : List (List V)} {el : List V} {r : V} [ht : TyI P t agg s by_ zs] (hm : m.at g = .row ver frz nw sz xs) (he : xs[i]? = some el) (hr : ldV agg s (el.drop off) = some r) :
      Ldg P m t (.rptr g ver i off) [g] (.dat nw r)
inductive Fad (P : Program) (m : Mem) (t : TypeId) (i : Nat) : D → List Nat → D → Prop
  | rp {off ft s by_ : Nat} {agg n : Bool} {zs cs : List V} [hf : FldI P t i off ft] [ht : TyI P ft agg s by_ zs] (hs : Nat.beq s 0 = false) : Fad P m t i (.dat n (.rp cs)) [] (.dat n (.rp (cs.drop off)))
  | ptr {off ft s by_ g o : Nat} {agg : Bool} {zs : List V} [hf : FldI P t i off ft] [ht : TyI P ft agg s by_ zs] (hs : Nat.beq s 0 = false) : Fad P m t i (.ptr g o) [] (.ptr g (o + off))
  | rptr {off ft s by_ g ver k o sz : Nat} {agg frz nw : Bool} {zs : List V} {xs : List (List V)} [hf : FldI P t i off ft] [ht : TyI P ft agg s by_ zs] (hs : Nat.beq s 0 = false) (hm : m.at g = .row ver frz nw sz xs) :
      Fad P m t i (.rptr g ver k o) [g] (.rptr g ver k (o + off))
inductive Fld (P : Program) (t : TypeId) (i : Nat) : D → D → Prop
  | dat {off ft s by_ : Nat} {agg n : Bool} {zs cs : List V} {r : V} [hf : FldI P t i off ft] [ht : TyI P ft agg s by_ zs] (hr : partV agg s off cs = some r) : Fld P t i (.dat n (.agg cs)) (.dat n r)
  | aggd {off ft by_ : Nat} {zs : List V} {cs : List D} {d : D} [hf : FldI P t i off ft] [ht : TyI P ft false 1 by_ zs] (hr : cs[off]? = some d) : Fld P t i (.aggd cs) d
inductive Bin (P : Program) (m : Mem) (t : TypeId) : BinOp → D → D → List Nat → D → Prop
  | add {n1 n2 : Bool} {k : IntKind} {a b c : Int} (h : Wr k (a + b) c) : Bin P m t .add (.dat n1 (.int k a)) (.dat n2 (.int k b)) [] (.dat true (.int k c))
  | sub {n1 n2 : Bool} {k : IntKind} {a b c : Int} (h : Wr k (a - b) c) : Bin P m t .sub (.dat n1 (.int k a)) (.dat n2 (.int k b)) [] (.dat true (.int k c))
  | mul {n1 n2 : Bool} {k : IntKind} {a b c : Int} (h : Wr k (a * b) c) : Bin P m t .mul (.dat n1 (.int k a)) (.dat n2 (.int k b)) [] (.dat true (.int k c))
  | quo {n1 n2 : Bool} {k : IntKind} {a b : Int} (h : b ≠ 0) : Bin P m t .quo (.dat n1 (.int k a)) (.dat n2 (.int k b)) [] (.dat true (.int k (k.wrap (a.tdiv b))))
  | rem {n1 n2 : Bool} {k : IntKind} {a b : Int} (h : b ≠ 0) : Bin P m t .rem (.dat n1 (.int k a)) (.dat n2 (.int k b)) [] (.dat true (.int k (a.tmod b)))
  | and {n1 n2 : Bool} {k : IntKind} {a b : Int} : Bin P m t .and (.dat n1 (.int k a)) (.dat n2 (.int k b)) [] (.dat true (.int k (k.andI a b)))
  | or {n1 n2 : Bool} {k : IntKind} {a b : Int} : Bin P m t .or (.dat n1 (.int k a)) (.dat n2 (.int k b)) [] (.dat true (.int k (k.orI a b)))
  | xor {n1 n2 : Bool} {k : IntKind} {a b : Int} : Bin P m t .xor (.dat n1 (.int k a)) (.dat n2 (.int k b)) [] (.dat true (.int k (k.xorI a b)))
  | andNot {n1 n2 : Bool} {k : IntKind} {a b : Int} : Bin P m t .andNot (.dat n1 (.int k a)) (.dat n2 (.int k b)) [] (.dat true (.int k (k.andNotI a b)))
  | shl {n1 n2 : Bool} {k k' : IntKind} {a b : Int} (h : 0 ≤ b) : Bin P m t .shl (.dat n1 (.int k a)) (.dat n2 (.int k' b)) [] (.dat true (.int k (k.shlI a b)))
  | shr {n1 n2 : Bool} {k k' : IntKind} {a b : Int} (h : 0 ≤ b) : Bin P m t .shr (.dat n1 (.int k a)) (.dat n2 (.int k' b)) [] (.dat true (.int k (k.shrI a b)))
  | lss {n1 n2 : Bool} {k : IntKind} {a b : Int} : Bin P m t .lss (.dat n1 (.int k a)) (.dat n2 (.int k b)) [] (.dat true (.bool (decide (a < b))))
  | leq {n1 n2 : Bool} {k : IntKind} {a b : Int} : Bin P m t .leq (.dat n1 (.int k a)) (.dat n2 (.int k b)) [] (.dat true (.bool (decide (a ≤ b))))
  | gtr {n1 n2 : Bool} {k : IntKind} {a b : Int} : Bin P m t .gtr (.dat n1 (.int k a)) (.dat n2 (.int k b)) [] (.dat true (.bool (decide (b < a))))
  | geq {n1 n2 : Bool} {k : IntKind} {a b : Int} : Bin P m t .geq (.dat n1 (.int k a)) (.dat n2 (.int k b)) [] (.dat true (.bool (decide (b ≤ a))))
  | eqI {n1 n2 : Bool} {k : IntKind} {a b : Int} : Bin P m t .eql (.dat n1 (.int k a)) (.dat n2 (.int k b)) [] (.dat true (.bool (decide (a = b))))
  | neI {n1 n2 : Bool} {k : IntKind} {a b : Int} : Bin P m t .neq (.dat n1 (.int k a)) (.dat n2 (.int k b)) [] (.dat true (.bool (decide (a ≠ b))))
  | eqS {n1 n2 : Bool} {a b : List UInt8} : Bin P m t .eql (.dat n1 (.str a)) (.dat n2 (.str b)) [] (.dat true (.bool (decide (a = b))))
  | neS {n1 n2 : Bool} {a b : List UInt8} : Bin P m t .neq (.dat n1 (.str a)) (.dat n2 (.str b)) [] (.dat true (.bool (decide (a ≠ b))))
  | eqB {n1 n2 a b : Bool} [ht : BoolI P t] : Bin P m t .eql (.dat n1 (.bool a)) (.dat n2 (.bool b)) [] (.dat true (.bool (a == b)))
  | neB {n1 n2 a b : Bool} [ht : BoolI P t] : Bin P m t .neq (.dat n1 (.bool a)) (.dat n2 (.bool b)) [] (.dat true (.bool (a != b)))
  | eqA {d1 d2 : D} {c : List Nat} {n1 n2 : Bool} {cs us : List V} {z : Bool} [hq : EqI P t c] (h1 : asV m d1 = some (n1, .agg cs)) (h2 : asV m d2 = some (n2, .agg us)) (hc : cs.map V.code = c) (hu : us.map V.code = c) (hz : eqL cs us = some z) :
      Bin P m t .eql d1 d2 (refs m d1 ++ refs m d2) (.dat true (.bool z))
  | neA {d1 d2 : D} {c : List Nat} {n1 n2 : Bool} {cs us : List V} {z : Bool} [hq : EqI P t c] (h1 : asV m d1 = some (n1, .agg cs)) (h2 : asV m d2 = some (n2, .agg us)) (hc : cs.map V.code = c) (hu : us.map V.code = c) (hz : eqL cs us = some z) :
      Bin P m t .neq d1 d2 (refs m d1 ++ refs m d2) (.dat true (.bool (!z)))
inductive Pck : D → D → D → D → Prop
  | T {n n1 c : Bool} {d : D} : Pck (.dat n (.bool true)) (.dat n1 (.bool c)) d (.dat true (.bool c))
  | F {n n1 c : Bool} {d : D} : Pck (.dat n (.bool false)) d (.dat n1 (.bool c)) (.dat true (.bool c))
  | and {n n1 n2 b c : Bool} : Pck (.dat n (.bool b)) (.grd (b == true) (.dat n1 (.bool c))) (.dat n2 (.bool false)) (.dat true (.bool (b && c)))
  | or {n n1 n2 b c : Bool} : Pck (.dat n (.bool b)) (.dat n1 (.bool true)) (.grd (b == false) (.dat n2 (.bool c))) (.dat true (.bool (b || c)))
inductive Lng (P : Program) (m : Mem) (t : TypeId) : D → List Nat → Int → Prop
  | slice {n : Bool} {xs : List (List V)} {el : Nat} [hu : SlcI P t el] : Lng P m t (.dat n (.slice xs)) [] xs.length
  | own {g ver lo len el sz : Nat} {frz nw : Bool} {xs : List (List V)} [hu : SlcI P t el] (hm : m.at g = .row ver frz nw sz xs) : Lng P m t (.own g ver lo len) [g] len
  | str {n : Bool} {s : List UInt8} [hu : StrI P t] : Lng P m t (.dat n (.str s)) [] s.length
  | nil {el : Nat} [hu : SlcI P t el] : Lng P m t .nil [] 0
inductive Nch : D → D → Prop
  | ptr {g o : Nat} : Nch (.ptr g o) (.ptr g o)
  | rp {n : Bool} {cs : List V} : Nch (.dat n (.rp cs)) (.dat n (.rp cs))
  | fn {n : Bool} {f : FuncId} {cs : List V} : Nch (.dat n (.fn f cs)) (.dat n (.fn f cs))
inductive Ixa (P : Program) (t : TypeId) : D → D → D → Prop
  | slice {n n' agg : Bool} {k : IntKind} {i : Int} {el s by_ : Nat} {zs c : List V} {xs : List (List V)} [hu : SlcI P t el] [ht : TyI P el agg s by_ zs] (hi : 0 ≤ i) (hc : xs[i.toNat]? = some c) (hl : c.length = s) :
      Ixa P t (.dat n (.slice xs)) (.dat n' (.int k i)) (.dat n (.rp c))
  | arr {n' agg : Bool} {k : IntKind} {i : Int} {el s by_ len g o : Nat} {zs : List V} [hu : ArrI P t len el] [ht : TyI P el agg s by_ zs] (hi : 0 ≤ i) (hc : i < len) : Ixa P t (.ptr g o) (.dat n' (.int k i)) (.ptr g (o + i.toNat * s))
inductive Pu (P : Program) (e : Operand → D) (m : Mem) : Op → List Nat → D → Prop
  | move {x : Operand} {d : D} (h : Cpy (e x) d) : Pu P e m (.move x) [] d
  | assign {x : Operand} {d : D} (h : Cpy (e x) d) : Pu P e m (.assign x) [] d
  | load {t : TypeId} {x : Operand} {rd : List Nat} {d : D} (h : Ldg P m t (e x) rd d) : Pu P e m (.load t x) rd d
  | fad {t : TypeId} {x : Operand} {i : Nat} {rd : List Nat} {d : D} (h : Fad P m t i (e x) rd d) : Pu P e m (.fieldAddr t x i) rd d
  | fld {t : TypeId} {x : Operand} {i : Nat} {d : D} (h : Fld P t i (e x) d) : Pu P e m (.field t x i) [] d
  | eqNil {t yt : TypeId} {x : Operand} {el : Nat} [hu : SlcI P t el] (h : e x = .nil) : Pu P e m (.binOp .eql t x (.const (.slice none 0 0)) yt) [] (.dat true (.bool true))
  | bin {op : BinOp} {t yt : TypeId} {x y : Operand} {rd : List Nat} {d : D} (h : Bin P m t op (e x) (e y) rd d) : Pu P e m (.binOp op t x y yt) rd d
  | not {t : TypeId} {x : Operand} {n b : Bool} (h : e x = .dat n (.bool b)) : Pu P e m (.unOp .not t x) [] (.dat true (.bool (!b)))
  | pick {x y z : Operand} {d : D} (h : Pck (e x) (e y) (e z) d) : Pu P e m (.pick x y z) [] d
  | len {t : TypeId} {x : Operand} {rd : List Nat} {a : Int} (h : Lng P m t (e x) rd a) : Pu P e m (.call { callee := .builtin .len, args := #[x], argTypes := #[t] }) rd (.dat true (.int .i64 a))
  | min {x y : Operand} {n n' : Bool} {k : IntKind} {a b : Int} {ts : Array TypeId} (h1 : e x = .dat n (.int k a)) (h2 : e y = .dat n' (.int k b)) : Pu P e m (.call { callee := .builtin .min, args := #[x, y], argTypes := ts }) [] (.dat true (.int k (Min.min a b)))
  | max {x y : Operand} {n n' : Bool} {k : IntKind} {a b : Int} {ts : Array TypeId} (h1 : e x = .dat n (.int k a)) (h2 : e y = .dat n' (.int k b)) : Pu P e m (.call { callee := .builtin .max, args := #[x, y], argTypes := ts }) [] (.dat true (.int k (Max.max a b)))
  | extract {x : Operand} {i : Nat} {n : Bool} {cs : List V} {d : V} (h : e x = .dat n (.tuple cs)) (hi : cs[i]? = some d) : Pu P e m (.extract x i) [] (.dat n d)
  | conv {s t : TypeId} {x : Operand} {n : Bool} {k k' : IntKind} {a c : Int} [hs : IntI P s k] [ht : IntI P t k'] (h : e x = .dat n (.int k a)) (hw : Wr k' a c) : Pu P e m (.convert s t x) [] (.dat true (.int k' c))
  | nilCheck {x : Operand} {d : D} (h : Nch (e x) d) : Pu P e m (.nilCheck x) [] d
  | build {t : TypeId} {s by_ : Nat} {zs : List V} {pl : List (Nat × Nat)} {cs : List D} {parts : Array (Nat × Operand)} [ht : TyI P t true s by_ zs] [hp : StructI P t pl] (h : fillD (pl[·]?) e (zs.map V.zD) parts.toList = some cs) : Pu P e m (.build t parts) [] (.aggd cs)
  | buildA {t : TypeId} {s by_ es eb len el : Nat} {eagg : Bool} {zs ez : List V} {cs : List D} {parts : Array (Nat × Operand)} [ht : TyI P t true s by_ zs] [hu : ArrI P t len el] [he : TyI P el eagg es eb ez] (h : fillD (fun i => some (i * es, es)) e (zs.map V.zD) parts.toList = some cs) :
      Pu P e m (.build t parts) [] (.aggd cs)
  | lit {t : TypeId} {el s by_ len : Nat} {agg n : Bool} {zs : List V} {els : List (List V)} {parts : Array (Nat × Operand)} [hu : SlcI P t el] [ht : TyI P el agg s by_ zs] (h : elsV m e s 0 parts.toList = some (n, els)) (hl : Nat.beq parts.size len = true) (hb : Nat.ble (len * s) 16777216 = true) (hb2 : Nat.ble len 16777216 = true) :
      Pu P e m (.buildSlice t len parts) (parts.toList.flatMap fun p => refs m (e p.2)) (.dat n (.slice els))
  | makeFunc {f : FuncId} {n : Bool} {caps : Array Operand} {vs : List V} (h : asVL m (caps.toList.map e) = some (n, vs)) : Pu P e m (.makeFunc (.func f) #[] caps) ((caps.toList.map e).flatMap (refs m)) (.dat n (.fn f vs))
  | ixa {t : TypeId} {x y : Operand} {d : D} (h : Ixa P t (e x) (e y) d) : Pu P e m (.indexAddr t x y) [] d
  | index {t : TypeId} {x y : Operand} {n' : Bool} {k : IntKind} {i : Int} {el by_ len : Nat} {zs : List V} {cs : List D} {d : D} [hu : ArrI P t len el] [ht : TyI P el false 1 by_ zs]
      (h1 : e x = .aggd cs) (h2 : e y = .dat n' (.int k i)) (hi : 0 ≤ i) (hc : i < len) (hr : cs[i.toNat]? = some d) : Pu P e m (.index t x y) [] d
section
variable {P : Program} {e : Operand → D} {m : Mem} {dst : Option Tmp} {ty : TypeId} {pos : String} {af : Array Edge} {gd : Option (Nat × Bool)} {x y z : Operand} {t : TypeId} {yt : TypeId}
theorem Wr.eq {k : IntKind} {a c : Int} (h : Wr k a c) : k.wrap a = c := by
  cases h with
  | inK h => exact wrap_in h
  | wr => rfl
theorem Bin.ok {op : BinOp} {rd : List Nat} {d : D} (h : Bin P m t op (e x) (e y) rd d) : SStep P ⟨dst, .binOp op t x y yt, ty, pos, af, gd⟩ e m rd d [] := by
  generalize hx : e x = d1 at h
  generalize hy : e y = d2 at h
  cases h with
  | add h => rw [← h.eq]; exact S_add hx hy
  | sub h => rw [← h.eq]; exact S_sub hx hy
  | mul h => rw [← h.eq]; exact S_mul hx hy
  | quo h => exact S_quo hx hy h
  | rem h => exact S_rem hx hy h
  | and => exact S_and hx hy
  | or => exact S_or hx hy
  | xor => exact S_xor hx hy
  | andNot => exact S_andNot hx hy
  | shl h => exact S_shl hx hy h
  | shr h => exact S_shr hx hy h
  | lss => exact S_lss hx hy
  | leq => exact S_leq hx hy
  | gtr => exact S_gtr hx hy
  | geq => exact S_geq hx hy
  | eqI => exact S_eql hx hy
  | neI => exact S_neq hx hy
  | eqS => exact S_eqls hx hy
  | neS => exact S_neqs hx hy
  | eqB => exact S_eqlb BoolI.out hx hy
  | neB => exact S_neqb BoolI.out hx hy
  | eqA h1 h2 hc hu hz => subst hx hy; exact S_eqlA h1 h2 hc hu hz
  | neA h1 h2 hc hu hz => subst hx hy; exact S_neqA h1 h2 hc hu hz
theorem Pu.ok {op : Op} {rd : List Nat} {d : D} (h : Pu P e m op rd d) : SStep P ⟨dst, op, ty, pos, af, gd⟩ e m rd d [] := by
  cases h with
  | @move x _ h => generalize hx : e x = d1 at h; cases h <;> (rw [← hx]; exact S_move)
  | @assign x _ h => generalize hx : e x = d1 at h; cases h <;> (rw [← hx]; exact S_assign)
  | @load t x _ _ h =>
    generalize hx : e x = d1 at h
    cases h with
    | rp hr => exact S_load_rp hx hr
    | ptr hm hc => exact S_load_ptr hx hm hc
    | ptrs hm hl => exact S_load_ptrs hx hm hl
    | rptr hm he hr => exact S_load_rptr hx hm he hr
  | @fad t x i _ _ h =>
    generalize hx : e x = d1 at h
    cases h with
    | rp hs => exact S_fieldAddr_rp hs hx
    | ptr hs => exact S_fieldAddr_ptr hs hx
    | rptr hs hm => exact S_fieldAddr_rptr hs hx hm
  | @fld t x i _ h =>
    generalize hx : e x = d1 at h
    cases h with
    | dat hr => exact S_field hx hr
    | aggd hr => exact S_field_aggd hx hr
  | eqNil h => exact S_eqNilT h
  | bin h => exact h.ok
  | not h => exact S_not h
  | @pick x y z _ h =>
    generalize hx : e x = d1 at h
    generalize hy : e y = d2 at h
    generalize hz : e z = d3 at h
    cases h with
    | T => exact S_pick hx (fun _ C m v hv => by rw [hy] at hv; rw [rd_bool hv]; exact mk_bool) (fun hb => by cases hb)
    | F => exact S_pick hx (fun hb => by cases hb) (fun _ C m v hv => by rw [hz] at hv; rw [rd_bool hv]; exact mk_bool)
    | and => exact S_pick_and hx hy hz
    | or => exact S_pick_or hx hy hz
  | @len t x _ _ h =>
    generalize hx : e x = d1 at h
    cases h with
    | slice => exact S_len_slice hx
    | own hm => exact S_len_own hx hm
    | str => exact S_len_str hx
    | nil => exact S_len_nil hx
  | min h1 h2 => exact S_min h1 h2
  | max h1 h2 => exact S_max h1 h2
  | extract h hi => exact S_extract h hi
  | conv h hw => rw [← hw.eq]; exact W_toInt h
  | @nilCheck x _ h =>
    generalize hx : e x = d1 at h
    cases h with
    | ptr => exact S_nilCheck_ptr hx
    | rp => exact S_nilCheck_rp hx
    | fn => exact S_nilCheck_fn hx
  | build h => exact S_build h
  | buildA h => exact S_buildA h
  | lit h hl hb hb2 => exact S_lit h hl hb hb2
  | makeFunc h => exact S_makeFunc h
  | @ixa t x y _ h =>
    generalize hx : e x = d1 at h
    generalize hy : e y = d2 at h
    cases h with
    | slice hi hc hl => exact S_ix_slice hx hy hi hc hl
    | arr hi hc => exact S_ix_arr_ptr hx hy hi hc
  | index h1 h2 hi hc hr => exact S_index_aggd h1 h2 hi hc hr
end
end Go.Proofs.Ytkppkgahdoglpaa
