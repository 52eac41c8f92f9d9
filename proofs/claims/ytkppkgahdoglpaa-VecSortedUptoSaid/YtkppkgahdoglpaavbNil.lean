/- Whether a slice that is data is nil: both may be, where it has no element. -/
import Derived.Test.YtkppkgahdoglpaavbPu
namespace Go.Proofs.Ytkppkgahdoglpaa
open Go.RowKit
theorem DW_isnil {P : Program} {Q : Exit → St → Prop} {env : Env} {mem : Mem} {nt id : Nat} {t u v : Tmp} {T el : TypeId} {ty1 ty2 : TypeId} {pos1 pos2 : String} {af1 af2 : Array Edge} {yt : TypeId} {n : Bool} {xs : List (List V)} [hu : SlcI P T el]
    (h : Env.at env u = .dat n (.slice xs)) (ht : Nat.blt t nt = true) (hv : Nat.blt v nt = true)
    (k1 : xs = [] → Q .normal ⟨(v, .dat true (.bool true)) :: (t, .nil) :: env, mem, nt⟩) (k2 : Q .normal ⟨(v, .dat true (.bool false)) :: (t, .dat n (.slice xs)) :: env, mem, nt⟩) :
    DW P (.region id #[⟨some t, .move (.tmp u), ty1, pos1, af1, none⟩, ⟨some v, .binOp .eql T (.tmp t) (.const (.slice none 0 0)) yt, ty2, pos2, af2, none⟩] false) Q ⟨env, mem, nt⟩ := by
  intro C a hh
  have hr := hh.env u
  rw [show (St.mk env mem nt).env = env from rfl, h] at hr
  have hsl : ∃ b l c, a.tmps.getD u undef = .slice b l c ∧ (b = none → xs = [] ∧ l = 0 ∧ c = 0) := by
    have hr : Rd (C.D n) C.w (.slice xs) (a.tmps.getD u undef) := hr
    generalize a.tmps.getD u undef = x at hr
    cases hr with
    | nil => exact ⟨none, 0, 0, rfl, fun _ => ⟨rfl, rfl, rfl⟩⟩
    | mt a cap hm => exact ⟨some a, 0, cap, rfl, fun h => by cases h⟩
    | slice _ b off cap sz cell => exact ⟨some _, _, _, rfl, fun h => by cases h⟩
  obtain ⟨b, l, c, hval, hnone⟩ := hsl
  have hev : a.eval (.tmp u) = .slice b l c := hval
  have hlt : t < a.tmps.size := by rw [hh.size]; simpa [Nat.blt_eq] using ht
  refine wp_region_lit (l := [⟨some t, .move (.tmp u), ty1, pos1, af1, none⟩, ⟨some v, .binOp .eql T (.tmp t) (.const (.slice none 0 0)) yt, ty2, pos2, af2, none⟩]) ?_
  refine wpList_step fun K hK => ?_
  rw [if_pos (by simp [Region.wanted])]
  refine wp_of_value (w' := C.w) (v := .slice b l c) (by simp [execOp, hev]) (hK _ _ ?_)
  refine wpList_step fun K2 hK2 => ?_
  rw [if_pos (by simp [Region.wanted])]
  have hev2 : (a.put (some t) (.slice b l c)).eval (.tmp t) = .slice b l c := by
    show (a.put (some t) (.slice b l c)).tmps.getD t undef = _
    simp [Act.put, hlt]
  have hq := run_equal_slice_nil (P := P) C.w T el b l c hu.out
  have hb : binOp .eql T (.slice b l c) (.slice none 0 0) = (do pure (.bool (← Op.equal T (.slice b l c) (.slice none 0 0)))) := rfl
  have he : (a.put (some t) (.slice b l c)).eval (.const (.slice none 0 0)) = .slice none 0 0 := rfl
  refine wp_of_value (w' := C.w) (v := .bool b.isNone) (by simp [execOp, hev2, he, eqGuard, hb, hq]) (hK2 _ _ ?_)
  have mk : ∀ d : D, RdD C mem d (.slice b l c) → Holds C ⟨(v, .dat true (.bool b.isNone)) :: (t, d) :: env, mem, nt⟩ (((a.put (some t) (.slice b l c)).put (some v) (.bool b.isNone))) := fun d hd => by
    have h1 := holds_put (wr := []) (val := d) (v := .slice b l c) (dst := some t) hh (Step.refl hh.mem) hd ht
    exact holds_put (wr := []) (val := .dat true (.bool b.isNone)) (v := .bool b.isNone) (dst := some v) h1 (Step.refl hh.mem) mk_bool hv
  cases b with
  | none =>
    obtain ⟨h1, h2, h3⟩ := hnone rfl
    subst h2 h3
    exact ⟨C, _, rfl, k1 h1, mk .nil rfl, Ext.refl _ _⟩
  | some b =>
    refine ⟨C, _, rfl, k2, mk (.dat n (.slice xs)) ?_, Ext.refl _ _⟩
    rw [← hval]; exact hr
class CellsI {α : Type} (f : α → List V) (s : outParam Nat) : Prop where
  len : ∀ a, (f a).length = s
  one : ∀ a, ∀ d ∈ f a, d.one = true
class FlatI {α : Type} (f : α → List V) : Prop where
  flat : ∀ a, ∀ d ∈ f a, Flat d
theorem map_el {α : Type} {f : α → List V} {s : Nat} [h : CellsI f s] (l : List α) : ∀ e ∈ l.map f, e.length = s ∧ ∀ d ∈ e, d.one = true := fun e he => by
  obtain ⟨a, _, rfl⟩ := List.mem_map.1 he
  exact ⟨h.len a, h.one a⟩
theorem map_len {α : Type} {f : α → List V} {s : Nat} [h : CellsI f s] (l : List α) : ∀ e ∈ l.map f, e.length = s := fun e he => (map_el l e he).1
theorem map_flat {α : Type} {f : α → List V} [h : FlatI f] (l : List α) : ∀ e ∈ l.map f, ∀ d ∈ e, Flat d := fun e he => by
  obtain ⟨a, _, rfl⟩ := List.mem_map.1 he
  exact h.flat a
section
variable {P : Program} {e : Operand → D} {m : Mem} {dst : Option Tmp} {ty : TypeId} {pos : String} {af : Array Edge} {gd : Option (Nat × Bool)} {x y : Operand} {t : TypeId}
inductive AppR (m : Mem) (s : Nat) : D → Bool → List (List V) → Prop
  | dat (n : Bool) (els : List (List V)) : AppR m s (.dat n (.slice els)) n els
  | nil : AppR m s .nil true []
  | own (g ver lo len : Nat) (frz nw : Bool) (xs : List (List V)) (h : m.at g = .row ver frz nw s xs) : AppR m s (.own g ver lo len) nw ((xs.drop lo).take len)
theorem AppR.d {α : Type} {f : α → List V} {s : Nat} [hf : CellsI f s] {m : Mem} {d : D} {n : Bool} {els : List (List V)} {bs : List α} (h : AppR m s d n els) (he : els = bs.map f) : AppD m d s n (bs.map f) := by
  rw [← he]
  cases h with
  | dat n els => exact .dat n _ s (by rw [he]; exact map_len bs)
  | nil => exact .nil s
  | own g ver lo len frz nw xs h => exact .own g ver lo len s frz n xs h
theorem as_bool {op : Op} {rd : List Nat} {a b : Bool} (h : SStep P ⟨dst, op, ty, pos, af, gd⟩ e m rd (.dat true (.bool a)) []) (hb : a = b) : SStep P ⟨dst, op, ty, pos, af, gd⟩ e m rd (.dat true (.bool b)) [] := by
  subst hb; exact h
theorem S_appM {α : Type} {f : α → List V} {us bs : List α} {g ver len s by_ el : Nat} {agg n nw nf : Bool} {zs : List V} [hu : SlcI P t el] [ht : TyI P el agg s by_ zs] [hf : CellsI f s]
    (h1 : e x = .own g ver 0 len) (hmg : m.at g = .row ver false nw s (us.map f)) {els : List (List V)} (h2' : AppR m s (e y) n els) (he : els = bs.map f) (hlx : len = us.length) (hnf : nf = (nw && n) ∨ (nf = nw ∧ FlatI f)) (hs : Nat.blt 0 s = true)
    (hb : (us.length + bs.length) * (by_ + 1) ≤ 140737488355328) :
    SStep P ⟨dst, .call { callee := .builtin .append, args := #[x, y], argTypes := #[t, t] }, ty, pos, af, gd⟩ e m (g :: refs0 (e y)) (.own g (ver + 1) 0 (us ++ bs).length) [(g, .row (ver + 1) false nf s ((us ++ bs).map f))] := by
  have hs : 0 < s := by simpa [Nat.blt_eq] using hs
  have h2 := h2'.d he
  have go : ∀ nf', (nf' = n ∨ FlatI f) → SStep P ⟨dst, .call { callee := .builtin .append, args := #[x, y], argTypes := #[t, t] }, ty, pos, af, gd⟩ e m (g :: refs0 (e y)) (.own g (ver + 1) 0 (us ++ bs).length) [(g, .row (ver + 1) false (nw && nf') s ((us ++ bs).map f))] := fun nf' h => by
    have := S_appendA (P := P) (t := t) (el := el) (by_ := by_) (zs := zs) (agg := agg) (dst := dst) (ty := ty) (pos := pos) (af := af) (gd := gd) (nf := nf') h1 hmg h2 (by simp [hlx]) (map_el bs) (h.imp id (fun h => map_flat (h := h) bs)) hs (by simpa [hlx] using hb)
    rw [List.length_append, List.map_append]
    simpa [hlx] using this
  rcases hnf with rfl | ⟨rfl, hfl⟩
  · exact go n (.inl rfl)
  · have := go true (.inr hfl)
    simpa using this
theorem S_storeM {α : Type} {f : α → List V} {us : List α} {u a : α} {agg nw n nf : Bool} {s by_ g ver i off sz : Nat} {zs : List V} {vs : List V} [ht : TyI P t agg s by_ zs] [hf : CellsI f sz] (h : e x = .rptr g ver i off) (hmg : m.at g = .row ver false nw sz (us.map f)) (he : us[i]? = some u)
    (hd : D.vcells m (e y) = some (n, vs)) (hset : spliceV (f u) off vs = f a) (hnf : nf = (nw && n) ∨ (nf = nw ∧ FlatI f)) (hl : vs.length = s) (hle : Nat.ble (off + s) sz = true) :
    SStep P ⟨none, .store t x y, ty, pos, af, gd⟩ e m (g :: refs m (e y)) .any [(g, .row ver false nf sz ((us.set i a).map f))] := by
  have hle' := Nat.le_of_ble_eq_true hle
  have hvs : ∀ d ∈ vs, d ∈ f a := fun d hd => by
    rw [← hset]
    unfold spliceV
    exact List.mem_append.2 (.inr (List.mem_append.2 (.inl hd)))
  have h1 : vs.all V.one = true := List.all_eq_true.2 (fun d hd => hf.one a d (hvs d hd))
  have he' : (us.map f)[i]? = some (f u) := by simp [he]
  have hel : Nat.ble (off + s) (f u).length = true := by rw [hf.len]; exact hle
  have hrow : (us.map f).set i (spliceV (f u) off vs) = (us.set i a).map f := by rw [hset, List.map_set]
  have go : ∀ nf', (nf' = n ∨ ∀ d ∈ vs, Flat d) → SStep P ⟨none, .store t x y, ty, pos, af, gd⟩ e m (g :: refs m (e y)) .any [(g, .row ver false (nw && nf') sz ((us.set i a).map f))] := fun nf' hq => by
    rw [← hrow]
    exact S_storeR (nf := nf') h hmg he' hd hq h1 hl hel
  rcases hnf with rfl | ⟨rfl, hfl⟩
  · exact go n (.inl rfl)
  · have := go true (.inr (fun d hd => hfl.flat a d (hvs d hd)))
    simpa using this
theorem S_ixM {α : Type} {f : α → List V} {us : List α} {n n' : Bool} {k : IntKind} {i : Int} {el s by_ : Nat} {agg : Bool} {zs : List V} {u : α} [hu : SlcI P t el] [ht : TyI P el agg s by_ zs] [hf : CellsI f s]
    (h1 : e x = .dat n (.slice (us.map f))) (h2 : e y = .dat n' (.int k i)) (hi : 0 ≤ i) (hc : us[i.toNat]? = some u) :
    SStep P ⟨dst, .indexAddr t x y, ty, pos, af, gd⟩ e m [] (.dat n (.rp (f u))) [] := S_ix_slice h1 h2 hi (by simp [hc]) (hf.len u)
theorem S_ixO {α : Type} {f : α → List V} {us : List α} {n' : Bool} {k : IntKind} {i : Int} {el s by_ g ver len : Nat} {agg frz nw : Bool} {zs : List V} [hu : SlcI P t el] [ht : TyI P el agg s by_ zs]
    (h1 : e x = .own g ver 0 len) (h2 : e y = .dat n' (.int k i)) (hm : m.at g = .row ver frz nw s (us.map f)) (hi : 0 ≤ i) (hc : i < len) :
    SStep P ⟨dst, .indexAddr t x y, ty, pos, af, gd⟩ e m [g] (.rptr g ver i.toNat 0) [] := by
  have := S_ix_own (P := P) (t := t) (el := el) (by_ := by_) (zs := zs) (agg := agg) (dst := dst) (ty := ty) (pos := pos) (af := af) (gd := gd) h1 h2 hm hi hc
  rwa [Nat.zero_add] at this
end
end Go.Proofs.Ytkppkgahdoglpaa
