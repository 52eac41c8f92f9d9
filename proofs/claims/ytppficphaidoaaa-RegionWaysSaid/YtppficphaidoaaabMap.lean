/- Maps of one's own whose keys and values are numbers. -/
import Derived.Test.YtppficphaidoaaabRg
import Derived.MapKept
import Derived.WideMake
namespace Go.Proofs.Ytppficphaidoaaa
open Go.RowKit
/-- The entries of such a map. -/
def mapE (k k' : IntKind) (es : List (Int × Int)) : List (V × V) := es.map fun p => (.int k p.1, .int k' p.2)
def lookM : List (Int × Int) → Int → Int
  | [], _ => 0
  | (a, b) :: r, n => if n = a then b else lookM r n
section
variable {P : Program} {e : Operand → D} {m : Mem} {dst : Option Tmp} {ty : TypeId} {pos : String} {af : Array Edge} {gd : Option (Nat × Bool)} {x y z : Operand} {t kt et : TypeId}
theorem S_mkMap {k k' : IntKind} (g : Nat) (hg : m.at g = .gone) : SStep P ⟨dst, .makeMap t none, ty, pos, af, gd⟩ e m [] (.mp g) [(g, .mapb kt et (mapE k k' []))] := by
  intro C m' a next Q hag hm hx hn
  have hg' : m'.at g = .gone := (hag g (by simp)).trans hg
  have hblk : (C.w.alloc (.map #[] 0)).heap[C.w.heap.size]? = some (.map #[] 0) := heap_alloc_new C.w _
  have hst : Step C m' (C.set g (some C.w.heap.size) (C.w.alloc (.map #[] 0))) ((g, .mapb kt et (mapE k k' [])) :: m') := by
    refine Step.fresh hm hg' (Grew.alloc C.w _) (fun b' hb' => by injection hb' with hb'; omega) (fun hd _ => ?_)
    exact ⟨_, rfl, #[], 0, hblk, rfl, rfl, by simp [mapE]⟩
  refine wp_of_value (v := .map (some C.w.heap.size)) (w' := C.w.alloc (.map #[] 0)) (by simp [execOp, run_makeMap_plain]) (hn _ _ hst ?_)
  exact ⟨kt, et, mapE k k' [], C.w.heap.size, Mem.at_cons_same _ _ _, by rw [Cf.set_same], rfl⟩
theorem find_now {w : World} {k k' : IntKind} (n : Int) : ∀ (es : List (Int × Int)) (l : List MapEntry) (i : Nat), l.length = es.length → (∀ (j : Nat) p q, es[j]? = some p → l[j]? = some q → q.key = .int k p.1 ∧ q.val = .int k' p.2) →
    (Instr.findNow (.int k) (.int k n) l i = some none ∧ (∀ p ∈ es, p.1 ≠ n)) ∨ ∃ j q, Instr.findNow (.int k) (.int k n) l i = some (some (j, .int k' (lookM es n))) ∧ q ∈ es ∧ q.1 = n
  | [], [], i, _, _ => .inl ⟨rfl, by simp⟩
  | p :: es, q :: l, i, hl, h => by
    obtain ⟨h1, h2⟩ := h 0 p q rfl rfl
    obtain ⟨a, b⟩ := p
    simp only at h1 h2
    have hs : Instr.sameNow (.int k) (.int k n) q.key = some (n == a) := by rw [h1]; simp [Instr.sameNow]
    by_cases hna : n = a
    · refine .inr ⟨i, (a, b), ?_, List.mem_cons.2 (.inl rfl), hna.symm⟩
      rw [Instr.findNow, hs, lookM, if_pos hna, h2]
      simp [hna]
    · have hs' : Instr.findNow (.int k) (.int k n) (q :: l) i = Instr.findNow (.int k) (.int k n) l (i + 1) := by rw [Instr.findNow, hs, show (n == a) = false by simpa using hna]
      rcases find_now (w := w) n es l (i + 1) (by simpa using hl) (fun j p' q' hp hq => h (j + 1) p' q' hp hq) with ⟨g1, g2⟩ | ⟨j, q', g1, g2, g3⟩
      · refine .inl ⟨by rw [hs', g1], fun p hp => ?_⟩
        rcases List.mem_cons.1 hp with rfl | hp
        · exact fun h => hna h.symm
        · exact g2 p hp
      · exact .inr ⟨j, q', by rw [hs', g1, lookM, if_neg hna], List.mem_cons.2 (.inr g2), g3⟩
theorem lookM_none {es : List (Int × Int)} {n : Int} (h : ∀ p ∈ es, p.1 ≠ n) : lookM es n = 0 := by
  induction es with
  | nil => rfl
  | cons p r ih =>
    rw [lookM, if_neg (fun h' => h p (List.mem_cons.2 (.inl rfl)) h'.symm)]
    exact ih (fun q hq => h q (List.mem_cons.2 (.inr hq)))
theorem map_ents {w : World} {k k' : IntKind} {es : List (Int × Int)} {ents : Array MapEntry} (hl : ents.size = (mapE k k' es).length) (h : ∀ (i : Nat) p e, (mapE k k' es)[i]? = some p → ents[i]? = some e → Rd (fun _ => False) w p.1 e.key ∧ Rd (fun _ => False) w p.2 e.val ∧ e.born = i) :
    ents.toList.length = es.length ∧ ∀ (j : Nat) p q, es[j]? = some p → ents.toList[j]? = some q → q.key = .int k p.1 ∧ q.val = .int k' p.2 := by
  refine ⟨by simpa [mapE] using hl, fun j p q hp hq => ?_⟩
  obtain ⟨h1, h2, _⟩ := h j (.int k p.1, .int k' p.2) q (by simp [mapE, hp]) (by simpa using hq)
  exact ⟨rv_int h1, rv_int h2⟩
theorem S_lookup {g : Nat} {k k' : IntKind} {kt' et' : TypeId} {n' : Bool} {n : Int} {es : List (Int × Int)} {by_ : Nat} (hu : P.underlying t = some (.map kt et)) (hk : P.underlying kt = some (.int k)) [hz : TyI P et false 1 by_ [.int k' 0]]
    (h1 : e x = .mp g) (hmg : m.at g = .mapb kt' et' (mapE k k' es)) (h2 : e y = .dat n' (.int k n)) :
    SStep P ⟨dst, .lookup t x y false, ty, pos, af, gd⟩ e m [g] (.dat true (.int k' (lookM es n))) [] :=
  .pure fun C m' ac ha hh hx => by
    have g1 := hx x (by simp [Op.operands]); rw [h1] at g1
    have g2 := rd_int (by have := hx y (by simp [Op.operands]); rwa [h2] at this)
    obtain ⟨kt1, et1, es1, b, hat, hi, hv⟩ := g1
    have hat' := hat
    rw [ha g (by simp), hmg] at hat
    injection hat with e1 e2 e3
    subst e1 e2 e3
    have hb := hh.box g
    rw [hat'] at hb
    obtain ⟨b', hi', ents, clock, q1, q2, q3, q4⟩ := hb
    rw [hi] at hi'
    injection hi' with hi'
    subst hi'
    obtain ⟨l1, l2⟩ := map_ents q2 q4
    refine ⟨.int k' (lookM es n), ?_, mk_int⟩
    have hkey : MapKept.IsKey (.int k) (.int k n) := by simp [MapKept.IsKey]
    rcases find_now (w := C.w) n es ents.toList 0 l1 l2 with ⟨f1, f2⟩ | ⟨j, q, f1, _, _⟩
    · rw [lookM_none f2]
      have hzv := run_zero hz C.w
      simp only [execOp, hv, g2, Instr.lookup, Sem.run_bind, run_under hu, Result.andThen_ok, MapKept.run_getObj_map q1, Sem.run_pure, MapKept.run_checkKey hk hkey, MapKept.run_findKey hk f1]
      simp [hzv, zval, V.val]
    · simp only [execOp, hv, g2, Instr.lookup, Sem.run_bind, run_under hu, Result.andThen_ok, MapKept.run_getObj_map q1, Sem.run_pure, MapKept.run_checkKey hk hkey, MapKept.run_findKey hk f1]
      simp
theorem S_mapSet {g : Nat} {k k' : IntKind} {n1 n2 : Bool} {a b : Int} {es : List (Int × Int)} {kt' et' : TypeId} (hu : P.underlying t = some (.map kt et)) (hk : P.underlying kt = some (.int k))
    (h1 : e x = .mp g) (hmg : m.at g = .mapb kt' et' (mapE k k' es)) (h2 : e y = .dat n1 (.int k a)) (h3 : e z = .dat n2 (.int k' b)) (hnew : ∀ p ∈ es, p.1 ≠ a) :
    SStep P ⟨none, .mapUpdate t x y z, ty, pos, af, gd⟩ e m [g] .any [(g, .mapb kt' et' (mapE k k' (es ++ [(a, b)])))] := by
  intro C m' ac next Q hag hh hx hn
  have g1 := hx x (by simp [Op.operands]); rw [h1] at g1
  have g2 := rd_int (by have := hx y (by simp [Op.operands]); rwa [h2] at this)
  have g3 := rd_int (by have := hx z (by simp [Op.operands]); rwa [h3] at this)
  obtain ⟨kt1, et1, es1, b1, hat, hi, hv⟩ := g1
  have hmg' : m'.at g = .mapb kt' et' (mapE k k' es) := (hag g (.inl (by simp))).trans hmg
  have hbx := hh.box g
  rw [hmg'] at hbx
  obtain ⟨b', hi', ents, clock, q1, q2, q3, q4⟩ := hbx
  rw [hi] at hi'
  injection hi' with hi'
  subst hi'
  obtain ⟨l1, l2⟩ := map_ents q2 q4
  have hkey : MapKept.IsKey (.int k) (.int k a) := by simp [MapKept.IsKey]
  rcases find_now (w := C.w) a es ents.toList 0 l1 l2 with ⟨f1, _⟩ | ⟨j, q, _, f2, f3⟩
  case inr => exact absurd f3 (hnew q f2)
  let w' : World := { C.w with heap := C.w.heap.setIfInBounds b1 (.map (ents.push { key := .int k a, val := .int k' b, born := clock }) (clock + 1)) }
  have hset := MapKept.heap_set (o' := .map (ents.push { key := .int k a, val := .int k' b, born := clock }) (clock + 1)) q1
  have hst : Step C m' { C with w := w' } ((g, .mapb kt' et' (mapE k k' (es ++ [(a, b)]))) :: m') := by
    refine Step.write hh (by rw [hmg']; rfl) hi rfl rfl rfl (by simp [w']) (fun k hk => hset.2 k hk) ?_ ?_ ?_ ?_ (fun hd _ => ?_)
    · rintro v0 lo0 len0 u ⟨_, _, _, _, _, h, _⟩; rw [hmg'] at h; cases h
    · rintro off v ⟨_, _, _, _, h, _⟩; rw [hmg'] at h; cases h
    · rintro v0 i0 off0 u ⟨_, _, _, _, _, h, _⟩; rw [hmg'] at h; cases h
    · rintro v ⟨kt1, et1, es1, b2, h, hi2, hv2⟩
      exact ⟨kt', et', _, b2, Mem.at_cons_same _ _ _, hi2, hv2⟩
    · refine ⟨b1, rfl, _, _, hset.1, by simp [mapE, q2], by simp [mapE, q3], fun i p e' h1 h2 => ?_⟩
      have hsz : ents.size = es.length := by simpa [mapE] using q2
      have hcl : clock = es.length := by simpa [mapE] using q3
      by_cases hlt : i < es.length
      · have h1' : (mapE k k' es)[i]? = some p := by
          rw [mapE, List.map_append] at h1
          rw [List.getElem?_append_left (by simpa using hlt)] at h1
          exact h1
        have h2' : ents[i]? = some e' := by
          rw [Array.getElem?_push_lt (by omega)] at h2
          rw [← h2]; exact Array.getElem?_eq_getElem _
        obtain ⟨r1, r2, r3⟩ := q4 i p e' h1' h2'
        exact ⟨Rd.mono r1 (fun _ h => h) (fun _ h => h.elim), Rd.mono r2 (fun _ h => h) (fun _ h => h.elim), r3⟩
      · have hi3 : i = es.length := by
          have := (List.getElem?_eq_some_iff.1 h1).1
          simp [mapE] at this
          omega
        subst hi3
        have hp : p = (.int k a, .int k' b) := by
          simp [mapE] at h1
          exact h1.symm
        have he : e' = { key := .int k a, val := .int k' b, born := clock } := by
          rw [← hsz, Array.getElem?_push_size] at h2
          injection h2 with h2
          exact h2.symm
        subst hp he
        exact ⟨Rd.int _ _, Rd.int _ _, hcl⟩
  refine wp_of_skip (w' := w') ?_ (hn undef _ hst trivial)
  simp [execOp, hv, g2, g3, Instr.mapUpdate, run_under hu, MapKept.run_getObj_map q1, MapKept.run_checkKey hk hkey, MapKept.run_findKey hk f1, MapKept.run_setObj_map _ q1, Result.andThen, w']
end
end Go.Proofs.Ytppficphaidoaaa
