/- Whether a slice that is data is nil: both may be, where it has no element. -/
import Derived.Test.YtpdoplmnedpdaaabPu
namespace Go.Proofs.Ytpdoplmnedpdaaa
open Go.RowKit

theorem DW_isnil {P : Program} {Q : Exit → St → Prop} {env : Env} {mem : Mem} {nt id : Nat} {t u v : Tmp} {T el : TypeId} {ty1 ty2 : TypeId} {pos1 pos2 : String} {af1 af2 : Array Edge} {yt : TypeId} {n : Bool} {xs : List (List V)} [hu : SlcI P T el]
    (h : Env.at env u = .dat n (.slice xs)) (ht : Nat.blt t nt = true) (hv : Nat.blt v nt = true)
    (k1 : xs = [] → Q .normal ⟨(v, .dat true (.bool true)) :: (t, .nil) :: env, mem, nt⟩) (k2 : Q .normal ⟨(v, .dat true (.bool false)) :: (t, .dat n (.slice xs)) :: env, mem, nt⟩) :
    DW P (.region id #[⟨some t, .move (.tmp u), ty1, pos1, af1, none⟩, ⟨some v, .binOp .eql T (.tmp t) (.const (.slice none 0 0)) yt, ty2, pos2, af2, none⟩] false) Q ⟨env, mem, nt⟩ := by
  intro C a hh
  have hr := hh.env u
  rw [show (St.mk env mem nt).env = env from rfl, h] at hr
  have hsl : ∃ b l c, a.tmps.getD u undef = .slice b l c ∧ (b = none → xs = [] ∧ l = 0 ∧ c = 0) := by
    have hr : Rd (C.D n) C.w (.slice xs) (a.tmps.getD u undef) := hr
    generalize a.tmps.getD u undef = x at hr
    cases hr with
    | nil => exact ⟨none, 0, 0, rfl, fun _ => ⟨rfl, rfl, rfl⟩⟩
    | mt a cap hm => exact ⟨some a, 0, cap, rfl, fun h => by cases h⟩
    | slice _ b off cap sz cell => exact ⟨some _, _, _, rfl, fun h => by cases h⟩
  obtain ⟨b, l, c, hval, hnone⟩ := hsl
  have hev : a.eval (.tmp u) = .slice b l c := hval
  have hlt : t < a.tmps.size := by rw [hh.size]; simpa [Nat.blt_eq] using ht
  refine wp_region_lit (l := [⟨some t, .move (.tmp u), ty1, pos1, af1, none⟩, ⟨some v, .binOp .eql T (.tmp t) (.const (.slice none 0 0)) yt, ty2, pos2, af2, none⟩]) ?_
  refine wpList_step fun K hK => ?_
  rw [if_pos (by simp [Region.wanted])]
  refine wp_of_value (w' := C.w) (v := .slice b l c) (by simp [execOp, hev]) (hK _ _ ?_)
  refine wpList_step fun K2 hK2 => ?_
  rw [if_pos (by simp [Region.wanted])]
  have hev2 : (a.put (some t) (.slice b l c)).eval (.tmp t) = .slice b l c := by
    show (a.put (some t) (.slice b l c)).tmps.getD t undef = _
    simp [Act.put, hlt]
  have hq := run_equal_slice_nil (P := P) C.w T el b l c hu.out
  have hb : binOp .eql T (.slice b l c) (.slice none 0 0) = (do pure (.bool (← Op.equal T (.slice b l c) (.slice none 0 0)))) := rfl
  have he : (a.put (some t) (.slice b l c)).eval (.const (.slice none 0 0)) = .slice none 0 0 := rfl
  refine wp_of_value (w' := C.w) (v := .bool b.isNone) (by simp [execOp, hev2, he, eqGuard, hb, hq]) (hK2 _ _ ?_)
  have mk : ∀ d : D, RdD C mem d (.slice b l c) → Holds C ⟨(v, .dat true (.bool b.isNone)) :: (t, d) :: env, mem, nt⟩ (((a.put (some t) (.slice b l c)).put (some v) (.bool b.isNone))) := fun d hd => by
    have h1 := holds_put (wr := []) (val := d) (v := .slice b l c) (dst := some t) hh (Step.refl hh.mem) hd ht
    exact holds_put (wr := []) (val := .dat true (.bool b.isNone)) (v := .bool b.isNone) (dst := some v) h1 (Step.refl hh.mem) mk_bool hv
  cases b with
  | none =>
    obtain ⟨h1, h2, h3⟩ := hnone rfl
    subst h2 h3
    exact ⟨C, _, rfl, k1 h1, mk .nil rfl, Ext.refl _ _⟩
  | some b =>
    refine ⟨C, _, rfl, k2, mk (.dat n (.slice xs)) ?_, Ext.refl _ _⟩
    rw [← hval]; exact hr

/-- A loop, from the top of its body. -/
def DWin (P : Program) (c : Code) (Q : Exit → St → Prop) (s : St) : Prop :=
  ∀ (C : Cf) (a : Act), Holds C s a → ∀ b k cs, ∃ e a' w', (∃ C' s', C'.w = w' ∧ Q e s' ∧ Holds C' s' a' ∧ Ext C s.mem C' s'.mem) ∧ Arrives P (lone (b.at a (.code c :: .inLoop c :: k)) cs C.w) b k cs e a' w'
theorem DW_loopU {P : Program} {c : Code} {Q : Exit → St → Prop} {s : St} (h : DWin P c Q s) : DW P (.loop c) Q s := by
  intro C a hh b k cs
  obtain ⟨e, a', w', hq, harr⟩ := h C a hh b k cs
  exact ⟨e, a', w', hq, .of_steps (.one step_loop) harr⟩
theorem DWin_step {P : Program} {c : Code} {Q : Exit → St → Prop} {s : St} (h : DW P c (thenQ (DWin P c Q) Q) s) : DWin P c Q s := by
  intro C a hh b k cs
  obtain ⟨e, a2, w2, ⟨C2, s2, rfl, q2, h2, x2⟩, harr⟩ := h C a hh b (.inLoop c :: k) cs
  cases e with
  | normal =>
    obtain ⟨e4, a4, w4, ⟨C4, s4, hw4, q4, h4, x4⟩, harr4⟩ := q2 C2 a2 h2 b k cs
    exact ⟨e4, a4, w4, ⟨C4, s4, hw4, q4, h4, x2.trans x4⟩, .of_steps (Steps.trans harr (.one step_inLoop)) harr4⟩
  | exit id => exact ⟨_, a2, _, ⟨C2, s2, rfl, q2, h2, x2⟩, .pass (x := .inLoop c) rfl (fun _ _ => .inl (by simp)) harr⟩
  | goto l => exact ⟨_, a2, _, ⟨C2, s2, rfl, q2, h2, x2⟩, .pass (x := .inLoop c) rfl (fun _ _ => .inl (by simp)) harr⟩
  | ret => exact ⟨_, a2, _, ⟨C2, s2, rfl, q2, h2, x2⟩, .pass (x := .inLoop c) rfl (fun _ _ => .inl (by simp)) harr⟩
  | panic ch => exact ⟨_, a2, _, ⟨C2, s2, rfl, q2, h2, x2⟩, .pass (x := .inLoop c) rfl (fun _ _ => .inl (by simp)) harr⟩
  | outgrown => exact ⟨_, a2, _, ⟨C2, s2, rfl, q2, h2, x2⟩, .pass (x := .inLoop c) rfl (fun _ _ => .inl (by simp)) harr⟩

/-- Things that lie in rows, s cells each. -/
class CellsI {α : Type} (f : α → List V) (s : outParam Nat) : Prop where
  len : ∀ a, (f a).length = s
  one : ∀ a, ∀ d ∈ f a, d.one = true
class FlatI {α : Type} (f : α → List V) : Prop where
  flat : ∀ a, ∀ d ∈ f a, Flat d
def byteV (b : UInt8) : List V := [.int .u8 b.toNat]
instance : CellsI byteV 1 := ⟨fun _ => rfl, fun _ d h => by simp [byteV] at h; subst h; rfl⟩
instance : FlatI byteV := ⟨fun _ d h => by simp [byteV] at h; subst h; exact .int _ _⟩
theorem bytesV_map (l : List UInt8) : bytesV l = l.map byteV := rfl
theorem mapV_get {α : Type} {f : α → List V} {l : List α} {i : Nat} (h : i < l.length) : (l.map f)[i]? = some (f l[i]) := by simp [h]
theorem map_el {α : Type} {f : α → List V} {s : Nat} [h : CellsI f s] (l : List α) : ∀ e ∈ l.map f, e.length = s ∧ ∀ d ∈ e, d.one = true := fun e he => by
  obtain ⟨a, _, rfl⟩ := List.mem_map.1 he
  exact ⟨h.len a, h.one a⟩
theorem map_len {α : Type} {f : α → List V} {s : Nat} [h : CellsI f s] (l : List α) : ∀ e ∈ l.map f, e.length = s := fun e he => (map_el l e he).1
theorem map_flat {α : Type} {f : α → List V} [h : FlatI f] (l : List α) : ∀ e ∈ l.map f, ∀ d ∈ e, Flat d := fun e he => by
  obtain ⟨a, _, rfl⟩ := List.mem_map.1 he
  exact h.flat a

section
variable {P : Program} {e : Operand → D} {m : Mem} {dst : Option Tmp} {ty : TypeId} {pos : String} {af : Array Edge} {gd : Option (Nat × Bool)} {x y : Operand} {t : TypeId}
inductive AppR (m : Mem) (s : Nat) : D → Bool → List (List V) → Prop
  | dat (n : Bool) (els : List (List V)) : AppR m s (.dat n (.slice els)) n els
  | nil : AppR m s .nil true []
  | own (g ver lo len : Nat) (frz nw : Bool) (xs : List (List V)) (h : m.at g = .row ver frz nw s xs) : AppR m s (.own g ver lo len) nw ((xs.drop lo).take len)
theorem AppR.d {α : Type} {f : α → List V} {s : Nat} [hf : CellsI f s] {m : Mem} {d : D} {n : Bool} {els : List (List V)} {bs : List α} (h : AppR m s d n els) (he : els = bs.map f) : AppD m d s n (bs.map f) := by
  rw [← he]
  cases h with
  | dat n els => exact .dat n _ s (by rw [he]; exact map_len bs)
  | nil => exact .nil s
  | own g ver lo len frz nw xs h => exact .own g ver lo len s frz n xs h
/-- A truth that is known. -/
theorem as_bool {op : Op} {rd : List Nat} {a b : Bool} (h : SStep P ⟨dst, op, ty, pos, af, gd⟩ e m rd (.dat true (.bool a)) []) (hb : a = b) : SStep P ⟨dst, op, ty, pos, af, gd⟩ e m rd (.dat true (.bool b)) [] := by
  subst hb; exact h
theorem S_pick_T {n n1 : Bool} {c : Bool} {z : Operand} (h : e x = .dat n (.bool true)) (h1 : e y = .dat n1 (.bool c)) : SStep P ⟨dst, .pick x y z, ty, pos, af, gd⟩ e m [] (.dat true (.bool c)) [] :=
  S_pick h (fun _ C m v hv => by rw [h1] at hv; rw [rd_bool hv]; exact mk_bool) (fun hb => by cases hb)
theorem S_pick_F {n n1 : Bool} {c : Bool} {z : Operand} (h : e x = .dat n (.bool false)) (h1 : e z = .dat n1 (.bool c)) : SStep P ⟨dst, .pick x y z, ty, pos, af, gd⟩ e m [] (.dat true (.bool c)) [] :=
  S_pick h (fun hb => by cases hb) (fun _ C m v hv => by rw [h1] at hv; rw [rd_bool hv]; exact mk_bool)
theorem S_appM {α : Type} {f : α → List V} {us bs : List α} {g ver len s by_ el : Nat} {agg n nw nf : Bool} {zs : List V} [hu : SlcI P t el] [ht : TyI P el agg s by_ zs] [hf : CellsI f s]
    (h1 : e x = .own g ver 0 len) (hmg : m.at g = .row ver false nw s (us.map f)) {els : List (List V)} (h2' : AppR m s (e y) n els) (he : els = bs.map f) (hlx : len = us.length) (hnf : nf = (nw && n) ∨ (nf = nw ∧ FlatI f)) (hs : Nat.blt 0 s = true)
    (hb : (us.length + bs.length) * (by_ + 1) ≤ 140737488355328) :
    SStep P ⟨dst, .call { callee := .builtin .append, args := #[x, y], argTypes := #[t, t] }, ty, pos, af, gd⟩ e m (g :: refs0 (e y)) (.own g (ver + 1) 0 (us ++ bs).length) [(g, .row (ver + 1) false nf s ((us ++ bs).map f))] := by
  have hs : 0 < s := by simpa [Nat.blt_eq] using hs
  have h2 := h2'.d he
  have go : ∀ nf', (nf' = n ∨ FlatI f) → SStep P ⟨dst, .call { callee := .builtin .append, args := #[x, y], argTypes := #[t, t] }, ty, pos, af, gd⟩ e m (g :: refs0 (e y)) (.own g (ver + 1) 0 (us ++ bs).length) [(g, .row (ver + 1) false (nw && nf') s ((us ++ bs).map f))] := fun nf' h => by
    have := S_appendA (P := P) (t := t) (el := el) (by_ := by_) (zs := zs) (agg := agg) (dst := dst) (ty := ty) (pos := pos) (af := af) (gd := gd) (nf := nf') h1 hmg h2 (by simp [hlx]) (map_el bs) (h.imp id (fun h => map_flat (h := h) bs)) hs (by simpa [hlx] using hb)
    rw [List.length_append, List.map_append]
    simpa [hlx] using this
  rcases hnf with rfl | ⟨rfl, hfl⟩
  · exact go n (.inl rfl)
  · have := go true (.inr hfl)
    simpa using this
theorem S_appNM {α : Type} {f : α → List V} {bs : List α} {s by_ el : Nat} {agg n nf : Bool} {zs : List V} (g : Nat) [hu : SlcI P t el] [ht : TyI P el agg s by_ zs] [hf : CellsI f s]
    (h1 : e x = .nil) {els : List (List V)} (h2' : AppR m s (e y) n els) (he : els = bs.map f) (hnf : nf = n ∨ FlatI f) (hs : Nat.blt 0 s = true) (hb : bs.length * (by_ + 1) ≤ 140737488355328) (hg : m.at g = .gone) :
    SStep P ⟨dst, .call { callee := .builtin .append, args := #[x, y], argTypes := #[t, t] }, ty, pos, af, gd⟩ e m (refs0 (e y)) (.own g 1 0 bs.length) [(g, .row 1 false nf s (bs.map f))] := by
  have hs : 0 < s := by simpa [Nat.blt_eq] using hs
  have h2 := h2'.d he
  have := S_appendN (P := P) (t := t) (el := el) (by_ := by_) (zs := zs) (agg := agg) (dst := dst) (ty := ty) (pos := pos) (af := af) (gd := gd) (nf := nf) g h1 h2 (map_el bs) (hnf.imp id (fun h => map_flat (h := h) bs)) hs (by simpa using hb) hg
  simpa using this
/-- A store into an element of such a row. -/
theorem S_storeM {α : Type} {f : α → List V} {us : List α} {u a : α} {agg nw n nf : Bool} {s by_ g ver i off sz : Nat} {zs : List V} {vs : List V} [ht : TyI P t agg s by_ zs] [hf : CellsI f sz] (h : e x = .rptr g ver i off) (hmg : m.at g = .row ver false nw sz (us.map f)) (he : us[i]? = some u)
    (hd : D.vcells m (e y) = some (n, vs)) (hset : spliceV (f u) off vs = f a) (hnf : nf = (nw && n) ∨ (nf = nw ∧ FlatI f)) (hl : vs.length = s) (hle : Nat.ble (off + s) sz = true) :
    SStep P ⟨none, .store t x y, ty, pos, af, gd⟩ e m (g :: refs m (e y)) .any [(g, .row ver false nf sz ((us.set i a).map f))] := by
  have hle' := Nat.le_of_ble_eq_true hle
  have hvs : ∀ d ∈ vs, d ∈ f a := fun d hd => by
    rw [← hset]
    unfold spliceV
    exact List.mem_append.2 (.inr (List.mem_append.2 (.inl hd)))
  have h1 : vs.all V.one = true := List.all_eq_true.2 (fun d hd => hf.one a d (hvs d hd))
  have he' : (us.map f)[i]? = some (f u) := by simp [he]
  have hel : Nat.ble (off + s) (f u).length = true := by rw [hf.len]; exact hle
  have hrow : (us.map f).set i (spliceV (f u) off vs) = (us.set i a).map f := by rw [hset, List.map_set]
  have go : ∀ nf', (nf' = n ∨ ∀ d ∈ vs, Flat d) → SStep P ⟨none, .store t x y, ty, pos, af, gd⟩ e m (g :: refs m (e y)) .any [(g, .row ver false (nw && nf') sz ((us.set i a).map f))] := fun nf' hq => by
    rw [← hrow]
    exact S_storeR (nf := nf') h hmg he' hd hq h1 hl hel
  rcases hnf with rfl | ⟨rfl, hfl⟩
  · exact go n (.inl rfl)
  · have := go true (.inr (fun d hd => hfl.flat a d (hvs d hd)))
    simpa using this
/-- append onto nil, as data at once. -/
theorem S_appND {α : Type} {f : α → List V} {bs : List α} {s by_ el : Nat} {agg n nf : Bool} {zs : List V} [hu : SlcI P t el] [ht : TyI P el agg s by_ zs] [hf : CellsI f s]
    (h1 : e x = .nil) {els : List (List V)} (h2' : AppR m s (e y) n els) (he : els = bs.map f) (hnf : nf = n ∨ FlatI f) (hs : Nat.blt 0 s = true) (hb : bs.length * (by_ + 1) ≤ 140737488355328) :
    SStep P ⟨dst, .call { callee := .builtin .append, args := #[x, y], argTypes := #[t, t] }, ty, pos, af, gd⟩ e m (refs0 (e y)) (.dat nf (.slice (bs.map f))) [] := by
  have hs : 0 < s := by simpa [Nat.blt_eq] using hs
  intro C m' a next Q ha hm hx hn
  have g1 := hx x (by simp [Op.operands, Call.operands]); rw [h1] at g1
  have g2 := hx y (by simp [Op.operands, Call.operands])
  have hv : a.eval x = .slice none 0 0 := g1
  have hsl := appD_rd hm (fun g' hg' => ha g' (.inl hg')) (h2'.d he) g2
  have hexec : ∀ {v : Value} {w' : World}, (Builtin.append_ #[t, t] ty #[a.eval x, a.eval y]).run P C.w = .ok v w' →
      (execOp a.eval ⟨dst, .call { callee := .builtin .append, args := #[x, y], argTypes := #[t, t] }, ty, pos, af, gd⟩).run P C.w = .ok (.value v) w' := fun h => by
    simp [execOp, resolve, invoke, builtin, h]
  rcases hsl with ⟨h0, ay, cy, hy⟩ | ⟨h0, b2, off, cy, hy, hcell⟩
  · refine wp_of_value (hexec (v := .slice none 0 0) (by rw [hv, hy]; exact run_append_zero hu.out ht (Nat.le_refl _))) (hn _ C (Step.refl hm) ?_)
    rw [h0]
    exact Rd.nil
  · have hmpos : 0 < (bs.map f).length := List.length_pos_iff.2 h0
    have hel' : ∀ (i : Nat) (e : List V), (bs.map f)[i]? = some e → e.length = s := fun i e h => (map_el bs e (List.mem_of_getElem? h)).1
    let news : List Value := (List.range ((bs.map f).length * s)).map fun q => (C.w.cell? ⟨b2, off + q, none⟩).getD undef
    have hnl : news.length = (bs.map f).length * s := by simp [news]
    have hat : ∀ q, q < (bs.map f).length * s → ∃ c, C.w.cell? ⟨b2, off + q, none⟩ = some c ∧ news[q]? = some c ∧ c.oneCell' = true := fun q hq => by
      obtain ⟨k1, k2, k3⟩ := split_idx hs hq
      have he := List.getElem?_eq_getElem k1
      have hl := hel' _ _ he
      obtain ⟨c, c1, _, c3⟩ := hcell (q / s) (q % s) _ _ he (List.getElem?_eq_getElem (by omega))
      rw [Nat.add_assoc, ← k3] at c1
      refine ⟨c, c1, ?_, c3⟩
      have hq' : q < bs.length * s := by simpa using hq
      simp [news, hq', c1]
    have hnews : ∀ j u, news[j]? = some u → C.w.cell? ((⟨b2, off, none⟩ : Addr).add j) = some u := fun j u hj => by
      have hlt : j < (bs.map f).length * s := by rw [← hnl]; exact (List.getElem?_eq_some_iff.1 hj).1
      obtain ⟨c, c1, c2, _⟩ := hat j hlt
      rw [hj] at c2
      injection c2 with c2
      rw [aadd, c1, c2]
    have hone : ∀ u ∈ news, u.oneCell' = true := fun u hu' => by
      obtain ⟨j, hj⟩ := List.getElem?_of_mem hu'
      have hlt : j < (bs.map f).length * s := by rw [← hnl]; exact (List.getElem?_eq_some_iff.1 hj).1
      obtain ⟨c, _, c2, c3⟩ := hat j hlt
      rw [hj] at c2
      injection c2 with c2
      rw [c2]; exact c3
    have hb1 : (0 + (bs.map f).length) * by_ ≤ 140737488355328 := by
      have : bs.length * by_ ≤ bs.length * (by_ + 1) := Nat.mul_le_mul_left _ (Nat.le_succ _)
      simp; omega
    have hb2 : bs.length ≤ 140737488355328 := by
      have : bs.length * 1 ≤ bs.length * (by_ + 1) := Nat.mul_le_mul_left _ (by omega)
      omega
    obtain ⟨v', w', b', cap', cur, r1, r2, r3, r4, r5, r6, r7, r8, r9⟩ := run_append_any (P := P) (w := C.w) (ty := ty) (c := cy) (ao := none) (len := 0) (cap := 0) (olds := []) hu.out ht hs (fun _ => ⟨rfl, rfl⟩) (by simp) (fun b hb => by cases hb) hnl hnews hmpos hone (by omega) (by unfold maxLen; simp; omega) hb1
    rw [Nat.zero_add] at r2 r6 r9
    have hst := step_dat (w := w') (fun k => k = b') hm r4 (fun k hk => by subst hk; exact ⟨r3, (Array.getElem?_eq_some_iff.1 r5).1⟩)
    refine wp_of_value (hexec (v := v') (w' := w') (by rw [hv, hy]; exact r1)) (hn v' _ hst ?_)
    have hcur : ∀ q, q < (bs.map f).length * s → cur[q]? = news[q]? := fun q hq => by
      have := congrArg (fun l => l[q]?) r9
      simp only [List.nil_append] at this
      rw [List.getElem?_take, if_pos hq, Array.getElem?_toList] at this
      exact this
    have hcell2 : ∀ (i j : Nat) (e' : List V) (d : V), (bs.map f)[i]? = some e' → e'[j]? = some d → cur[i * s + j]? = some (cur.getD (i * s + j) undef) ∧ news[i * s + j]? = some (cur.getD (i * s + j) undef) := fun i j e' d hi hj => by
      have h1 : i < (bs.map f).length := (List.getElem?_eq_some_iff.1 hi).1
      have h2 : j < s := by rw [← hel' i e' hi]; exact (List.getElem?_eq_some_iff.1 hj).1
      have hlt : i * s + j < (bs.map f).length * s := idx_lt h1 h2
      obtain ⟨c, _, c2, _⟩ := hat _ hlt
      rw [← hcur _ hlt] at c2 ⊢
      have : cur.getD (i * s + j) undef = c := by rw [Array.getD_eq_getD_getElem?, c2]; rfl
      rw [this]
      exact ⟨c2, c2⟩
    rw [r2]
    refine Rd.slice (S := (C.put (fun k => k = b') w').D nf) (w := w') (bs.map f) b' 0 cap' s (fun i j => cur.getD (i * s + j) undef) r6 r7 hel'
      (fun i j e' d hi hj => (map_el bs e' (List.mem_of_getElem? hi)).2 d (List.mem_of_getElem? hj)) (fun _ => by cases nf <;> exact .inr rfl)
      (fun i j e' d hi hj => by rw [cell_of_arr r5, Nat.zero_add]; exact (hcell2 i j e' d hi hj).1) (fun i j e' d hi hj => ?_)
    obtain ⟨c, c1, c2, _⟩ := hcell i j e' d hi hj
    have h5 := hnews _ _ (hcell2 i j e' d hi hj).2
    rw [aadd, ← Nat.add_assoc, c1] at h5
    injection h5 with h5
    rw [← h5]
    rcases hnf with rfl | hfl
    · exact RdF.mono c2 hm hst.ext
    · obtain ⟨x0, _, hx2⟩ := List.mem_map.1 (List.mem_of_getElem? hi)
      exact RdF.flat c2 (hfl.flat x0 d (by rw [hx2]; exact List.mem_of_getElem? hj))
theorem S_ixM {α : Type} {f : α → List V} {us : List α} {n n' : Bool} {k : IntKind} {i : Int} {el s by_ : Nat} {agg : Bool} {zs : List V} {u : α} [hu : SlcI P t el] [ht : TyI P el agg s by_ zs] [hf : CellsI f s]
    (h1 : e x = .dat n (.slice (us.map f))) (h2 : e y = .dat n' (.int k i)) (hi : 0 ≤ i) (hc : us[i.toNat]? = some u) :
    SStep P ⟨dst, .indexAddr t x y, ty, pos, af, gd⟩ e m [] (.dat n (.rp (f u))) [] := S_ix_slice h1 h2 hi (by simp [hc]) (hf.len u)
theorem S_ixO {α : Type} {f : α → List V} {us : List α} {n' : Bool} {k : IntKind} {i : Int} {el s by_ g ver len : Nat} {agg frz nw : Bool} {zs : List V} [hu : SlcI P t el] [ht : TyI P el agg s by_ zs]
    (h1 : e x = .own g ver 0 len) (h2 : e y = .dat n' (.int k i)) (hm : m.at g = .row ver frz nw s (us.map f)) (hi : 0 ≤ i) (hc : i < len) :
    SStep P ⟨dst, .indexAddr t x y, ty, pos, af, gd⟩ e m [g] (.rptr g ver i.toNat 0) [] := by
  have := S_ix_own (P := P) (t := t) (el := el) (by_ := by_) (zs := zs) (agg := agg) (dst := dst) (ty := ty) (pos := pos) (af := af) (gd := gd) h1 h2 hm hi hc
  rwa [Nat.zero_add] at this
/-- make, of such a row. -/
theorem S_mkM {α : Type} {f : α → List V} {el s by_ l c : Nat} {agg n1 n2 : Bool} {k1 k2 : IntKind} {zs : List V} {a b : Int} (z : α) (g : Nat) [hu : SlcI P t el] [ht : TyI P el agg s by_ zs] (h1 : e x = .dat n1 (.int k1 a)) (h2 : e y = .dat n2 (.int k2 b)) (ha : a = (l : Int)) (hb : b = (c : Int)) (hlc : l ≤ c)
    (hby : c * (by_ + 1) ≤ 140737488355328) (hz : f z = zs) (hg : m.at g = .gone) :
    SStep P ⟨dst, .makeSlice t x y, ty, pos, af, gd⟩ e m [] (.own g 0 0 l) [(g, .row 0 false true s ((List.replicate l z).map f))] := by
  have := S_mkSlice (P := P) (t := t) (el := el) (by_ := by_) (zs := zs) (agg := agg) (dst := dst) (ty := ty) (pos := pos) (af := af) (gd := gd) g h1 h2 ha hb hlc hby hg
  rw [List.map_replicate, hz]
  exact this
end
end Go.Proofs.Ytpdoplmnedpdaaa
