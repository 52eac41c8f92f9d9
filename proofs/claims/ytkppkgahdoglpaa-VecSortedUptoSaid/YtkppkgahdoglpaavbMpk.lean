/- Maps of one's own whose keys are structs. -/
import Derived.Test.YtkppkgahdoglpaavbEq
import Derived.Test.YtkppkgahdoglpaavbMap
namespace Go.Proofs.Ytkppkgahdoglpaa
open Go.RowKit
class KeyI (P : Program) (kt : TypeId) {κ : Type} [DecidableEq κ] (f : κ → List V) (c : outParam (List Nat)) : Prop where
  q : EqI P kt c
  codes : ∀ a, (f a).map V.code = c
  eq : ∀ a b, eqL (f a) (f b) = some (decide (a = b))
  chk : ∀ (a : κ) (S : Nat → Prop) (e : Bool) (w : World) (v : Value), Rd S w (.agg (f a)) v → (Instr.checkKey e 10000 kt v).run P w = .ok () w
  flat : ∀ a, Flat (.agg (f a))
  now : ∃ d, P.underlying kt = some d ∧ ∀ x y, Instr.sameNow d (.agg x) y = none
def mapK {κ β : Type} (f : κ → List V) (h : β → V) (es : List (κ × β)) : List (V × V) := es.map fun p => (.agg (f p.1), h p.2)
def lookK {κ β : Type} [DecidableEq κ] (es : List (κ × β)) (a : κ) : Option β := (es.find? (fun p => decide (a = p.1))).map (·.2)
section
variable {P : Program} {κ β : Type} [DecidableEq κ] {f : κ → List V} {h : β → V} {c : List Nat} {kt et : TypeId}
theorem run_findAsking {C : Cf} {k : Value} {a : κ} [hk : KeyI P kt f c] (hka : RdF C false (.agg (f a)) k) : ∀ (es : List (κ × β)) (l : List MapEntry) (i : Nat), l.length = es.length →
    (∀ (j : Nat) p q, es[j]? = some p → l[j]? = some q → RdF C false (.agg (f p.1)) q.key ∧ RdF C true (h p.2) q.val) →
    ((Instr.findAsking kt k l i).run P C.w = .ok none C.w ∧ lookK es a = none) ∨ ∃ j v b, (Instr.findAsking kt k l i).run P C.w = .ok (some (j, v)) C.w ∧ lookK es a = some b ∧ RdF C true (h b) v
  | [], [], i, _, _ => .inl ⟨by simp [Instr.findAsking], rfl⟩
  | p :: es, q :: l, i, hl, hh => by
    obtain ⟨h1, h2⟩ := hh 0 p q rfl rfl
    obtain ⟨_, _, _, _, he0⟩ := eq_run (t := kt) (hq := hk.q) hka h1 (hk.codes a) (hk.codes p.1) (hk.eq a p.1)
    have he : (Op.equal kt k q.key).run P C.w = .ok (decide (a = p.1)) C.w := he0
    by_cases hap : a = p.1
    · refine .inr ⟨i, q.val, p.2, ?_, ?_, h2⟩
      · simp only [Instr.findAsking, Sem.run_bind, he, Result.andThen_ok, hap, decide_true, if_true, Sem.run_pure]
      · unfold lookK
        rw [List.find?_cons_of_pos (by simpa using hap)]; rfl
    · have hs : (Instr.findAsking kt k (q :: l) i).run P C.w = (Instr.findAsking kt k l (i + 1)).run P C.w := by
        simp only [Instr.findAsking, Sem.run_bind, he, Result.andThen_ok, decide_eq_false hap, Bool.false_eq_true, if_false]
      have hlk : lookK (p :: es) a = lookK es a := by
        unfold lookK
        rw [List.find?_cons_of_neg (by simpa using hap)]
      rw [hs, hlk]
      exact run_findAsking hka es l (i + 1) (by simpa using hl) (fun j p' q' hp hq => hh (j + 1) p' q' hp hq)
theorem run_findKeyA {C : Cf} {k : Value} {a : κ} [hk : KeyI P kt f c] (hka : RdF C false (.agg (f a)) k) {es : List (κ × β)} {ents : Array MapEntry} (hl : ents.size = (mapK f h es).length)
    (hh : ∀ (i : Nat) p e, (mapK f h es)[i]? = some p → ents[i]? = some e → Rd (fun _ => False) C.w p.1 e.key ∧ Rd (fun _ => False) C.w p.2 e.val ∧ e.born = i) :
    ((Instr.findKey kt k ents.toList).run P C.w = .ok none C.w ∧ lookK es a = none) ∨ ∃ j v b, (Instr.findKey kt k ents.toList).run P C.w = .ok (some (j, v)) C.w ∧ lookK es a = some b ∧ RdF C true (h b) v := by
  have hent : ∀ (j : Nat) p q, es[j]? = some p → ents.toList[j]? = some q → RdF C false (.agg (f p.1)) q.key ∧ RdF C true (h p.2) q.val := fun j p q hp hq => by
    obtain ⟨h1, h2, _⟩ := hh j (.agg (f p.1), h p.2) q (by simp [mapK, hp]) (by simpa using hq)
    exact ⟨Rd.mono h1 (fun _ h => h.elim) (fun _ _ => rfl), Rd.mono h2 (fun _ h => h.elim) (fun _ _ => rfl)⟩
  have hll : ents.toList.length = es.length := by simpa [mapK] using hl
  obtain ⟨d, hd, hnow⟩ := hk.now
  have hkv : ∃ vs, k = .agg vs := by cases hka with | agg _ vs _ _ => exact ⟨vs, rfl⟩
  obtain ⟨vs, rfl⟩ := hkv
  cases hes : ents.toList with
  | nil =>
    have he0 : es = [] := List.length_eq_zero_iff.1 (by rw [← hll, hes]; rfl)
    subst he0
    refine .inl ⟨?_, rfl⟩
    simp [Instr.findKey, run_under hd, Instr.findNow]
  | cons e r =>
    have hfn : Instr.findNow d (.agg vs) (e :: r) 0 = none := by rw [Instr.findNow, hnow]
    have hfk : (Instr.findKey kt (.agg vs) (e :: r)).run P C.w = (Instr.findAsking kt (.agg vs) (e :: r) 0).run P C.w := by
      simp [Instr.findKey, run_under hd, hfn]
    rw [hfk, ← hes]
    exact run_findAsking hka es ents.toList 0 hll hent
end
section
variable {P : Program} {e : Operand → D} {m : Mem} {dst : Option Tmp} {ty : TypeId} {pos : String} {af : Array Edge} {gd : Option (Nat × Bool)} {x y z : Operand} {t kt et : TypeId}
  {κ β : Type} [DecidableEq κ] {f : κ → List V} {h : β → V} {c : List Nat}
omit [DecidableEq κ] in
theorem S_mkMapK (f : κ → List V) (h : β → V) (g : Nat) (hg : m.at g = .gone) : SStep P ⟨dst, .makeMap t none, ty, pos, af, gd⟩ e m [] (.mp g) [(g, .mapb kt et (mapK f h []))] := S_mkMap (k := .i64) (k' := .i64) g hg
theorem S_lookupK {g : Nat} {kt' et' : TypeId} {n : Bool} {a : κ} {b0 : β} {es : List (κ × β)} {by_ : Nat} {zv : V} (hu : P.underlying t = some (.map kt et)) [hk : KeyI P kt f c] [hz : TyI P et false 1 by_ [zv]] (hz0 : h b0 = zv)
    (h1 : e x = .mp g) (hmg : m.at g = .mapb kt' et' (mapK f h es)) (h2 : asV m (e y) = some (n, .agg (f a))) :
    SStep P ⟨dst, .lookup t x y false, ty, pos, af, gd⟩ e m (g :: refs m (e y)) (.dat true (h ((lookK es a).getD b0))) [] :=
  .pure fun C m' ac ha hh hx => by
    have g1 := hx x (by simp [Op.operands]); rw [h1] at g1
    have g2 : RdF C false (.agg (f a)) (ac.eval y) := (asV_ok hh (fun g' hg' => ha g' (by simp [hg'])) h2 (hx y (by simp [Op.operands]))).weak hh
    obtain ⟨kt1, et1, es1, b, hat, hi, hv⟩ := g1
    have hat' := hat
    rw [ha g (by simp), hmg] at hat
    injection hat with e1 e2 e3
    subst e1 e2 e3
    have hb := hh.box g
    rw [hat'] at hb
    obtain ⟨b', hi', ents, clock, q1, q2, q3, q4⟩ := hb
    rw [hi] at hi'
    injection hi' with hi'
    subst hi'
    rcases run_findKeyA (hk := hk) g2 q2 q4 with ⟨f1, f2⟩ | ⟨j, v, b1, f1, f2, f3⟩
    · rw [f2]
      have hzv := run_zero hz C.w
      have hzc := hz.zc
      simp only [List.all_cons, List.all_nil, Bool.and_true] at hzc
      refine ⟨zv.val, ?_, ?_⟩
      · simp only [execOp, hv, Instr.lookup, Sem.run_bind, run_under hu, Result.andThen_ok, MapKept.run_getObj_map q1, Sem.run_pure, hk.chk a _ _ _ _ g2, f1]
        simp [hzv, zval]
      · rw [Option.getD_none, hz0]
        exact val_rd hzc
    · rw [f2]
      refine ⟨v, ?_, f3⟩
      simp only [execOp, hv, Instr.lookup, Sem.run_bind, run_under hu, Result.andThen_ok, MapKept.run_getObj_map q1, Sem.run_pure, hk.chk a _ _ _ _ g2, f1]
      simp
end
end Go.Proofs.Ytkppkgahdoglpaa
