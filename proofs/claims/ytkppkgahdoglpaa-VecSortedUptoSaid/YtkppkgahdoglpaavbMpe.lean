/- Maps of one's own whose keys are structs: entries that are turned in their place. -/
import Derived.Test.YtkppkgahdoglpaavbDrx
import Derived.Test.YtkppkgahdoglpaavbMpk
namespace Go.Proofs.Ytkppkgahdoglpaa
open Go.RowKit
section
variable {P : Program} {κ β : Type} [DecidableEq κ] {f : κ → List V} {h : β → V} {c : List Nat} {kt et : TypeId}
theorem run_findI {C : Cf} {k : Value} {a : κ} [hk : KeyI P kt f c] (hka : RdF C false (.agg (f a)) k) : ∀ (es : List (κ × β)) (l : List MapEntry) (i : Nat), l.length = es.length →
    (∀ (j : Nat) p q, es[j]? = some p → l[j]? = some q → RdF C false (.agg (f p.1)) q.key ∧ RdF C true (h p.2) q.val) →
    ((Instr.findAsking kt k l i).run P C.w = .ok none C.w ∧ lookK es a = none) ∨ ∃ j v b, (Instr.findAsking kt k l i).run P C.w = .ok (some (i + j, v)) C.w ∧ es[j]? = some (a, b) ∧ lookK es a = some b ∧ RdF C true (h b) v
  | [], [], i, _, _ => .inl ⟨by simp [Instr.findAsking], rfl⟩
  | p :: es, q :: l, i, hl, hh => by
    obtain ⟨h1, h2⟩ := hh 0 p q rfl rfl
    obtain ⟨_, _, _, _, he0⟩ := eq_run (t := kt) (hq := hk.q) hka h1 (hk.codes a) (hk.codes p.1) (hk.eq a p.1)
    have he : (Op.equal kt k q.key).run P C.w = .ok (decide (a = p.1)) C.w := he0
    by_cases hap : a = p.1
    · refine .inr ⟨0, q.val, p.2, ?_, ?_, ?_, h2⟩
      · simp only [Instr.findAsking, Sem.run_bind, he, Result.andThen_ok, hap, decide_true, if_true, Sem.run_pure, Nat.add_zero]
      · rw [hap]; rfl
      · unfold lookK
        rw [List.find?_cons_of_pos (by simpa using hap)]; rfl
    · have hs : (Instr.findAsking kt k (q :: l) i).run P C.w = (Instr.findAsking kt k l (i + 1)).run P C.w := by
        simp only [Instr.findAsking, Sem.run_bind, he, Result.andThen_ok, decide_eq_false hap, Bool.false_eq_true, if_false]
      have hlk : lookK (p :: es) a = lookK es a := by
        unfold lookK
        rw [List.find?_cons_of_neg (by simpa using hap)]
      rw [hs, hlk]
      rcases run_findI (hk := hk) hka es l (i + 1) (by simpa using hl) (fun j p' q' hp hq => hh (j + 1) p' q' hp hq) with r | ⟨j, v, b, r1, r2, r3, r4⟩
      · exact .inl r
      · exact .inr ⟨j + 1, v, b, by rw [r1, show i + 1 + j = i + (j + 1) by omega], r2, r3, r4⟩
theorem run_findKeyI {C : Cf} {k : Value} {a : κ} [hk : KeyI P kt f c] (hka : RdF C false (.agg (f a)) k) {es : List (κ × β)} {ents : Array MapEntry} (hl : ents.size = (mapK f h es).length)
    (hh : ∀ (i : Nat) p e, (mapK f h es)[i]? = some p → ents[i]? = some e → Rd (fun _ => False) C.w p.1 e.key ∧ Rd (fun _ => False) C.w p.2 e.val ∧ e.born = i) :
    ((Instr.findKey kt k ents.toList).run P C.w = .ok none C.w ∧ lookK es a = none) ∨ ∃ j v b, (Instr.findKey kt k ents.toList).run P C.w = .ok (some (j, v)) C.w ∧ es[j]? = some (a, b) ∧ lookK es a = some b ∧ RdF C true (h b) v := by
  have hent : ∀ (j : Nat) p q, es[j]? = some p → ents.toList[j]? = some q → RdF C false (.agg (f p.1)) q.key ∧ RdF C true (h p.2) q.val := fun j p q hp hq => by
    obtain ⟨h1, h2, _⟩ := hh j (.agg (f p.1), h p.2) q (by simp [mapK, hp]) (by simpa using hq)
    exact ⟨Rd.mono h1 (fun _ h => h.elim) (fun _ _ => rfl), Rd.mono h2 (fun _ h => h.elim) (fun _ _ => rfl)⟩
  have hll : ents.toList.length = es.length := by simpa [mapK] using hl
  obtain ⟨d, hd, hnow⟩ := hk.now
  have hkv : ∃ vs, k = .agg vs := by cases hka with | agg _ vs _ _ => exact ⟨vs, rfl⟩
  obtain ⟨vs, rfl⟩ := hkv
  cases hes : ents.toList with
  | nil =>
    have he0 : es = [] := List.length_eq_zero_iff.1 (by rw [← hll, hes]; rfl)
    subst he0
    refine .inl ⟨?_, rfl⟩
    simp [Instr.findKey, run_under hd, Instr.findNow]
  | cons e r =>
    have hfn : Instr.findNow d (.agg vs) (e :: r) 0 = none := by rw [Instr.findNow, hnow]
    have hfk : (Instr.findKey kt (.agg vs) (e :: r)).run P C.w = (Instr.findAsking kt (.agg vs) (e :: r) 0).run P C.w := by
      simp [Instr.findKey, run_under hd, hfn]
    rw [hfk, ← hes]
    rcases run_findI (hk := hk) hka es ents.toList 0 hll hent with r | ⟨j, v, b, r1, r2⟩
    · exact .inl r
    · exact .inr ⟨j, v, b, by rw [r1, Nat.zero_add], r2⟩
theorem map_write {C : Cf} {m : Mem} {g b : Nat} {kt' et' : TypeId} {es es' : List (V × V)} {ents ents' : Array MapEntry} {clock clock' : Nat} (hh : HoldsM C m) (hmg : m.at g = .mapb kt' et' es) (hi : C.ι g = some b) (hb : C.w.heap[b]? = some (.map ents clock))
    (h1 : ents'.size = es'.length) (h2 : clock' = es'.length) (h3 : ∀ (i : Nat) p e, es'[i]? = some p → ents'[i]? = some e → Rd (fun _ => False) C.w p.1 e.key ∧ Rd (fun _ => False) C.w p.2 e.val ∧ e.born = i) :
    Step C m { C with w := { C.w with heap := C.w.heap.setIfInBounds b (.map ents' clock') } } ((g, .mapb kt' et' es') :: m) := by
  have hset := MapKept.heap_set (o' := .map ents' clock') hb
  refine Step.write hh (by rw [hmg]; rfl) hi rfl rfl rfl (by simp) (fun k hk => hset.2 k hk) ?_ ?_ ?_ ?_ (fun hd _ => ?_)
  · rintro v0 lo0 len0 u ⟨_, _, _, _, _, h, _⟩; rw [hmg] at h; cases h
  · rintro off v ⟨_, _, _, _, h, _⟩; rw [hmg] at h; cases h
  · rintro v0 i0 off0 u ⟨_, _, _, _, _, h, _⟩; rw [hmg] at h; cases h
  · rintro v ⟨kt1, et1, es1, b2, h, hi2, hv2⟩
    exact ⟨kt', et', _, b2, Mem.at_cons_same _ _ _, hi2, hv2⟩
  · refine ⟨b, rfl, ents', clock', hset.1, h1, h2, fun i p e q1 q2 => ?_⟩
    obtain ⟨r1, r2, r3⟩ := h3 i p e q1 q2
    exact ⟨Rd.mono r1 (fun _ h => h) (fun _ h => h.elim), Rd.mono r2 (fun _ h => h) (fun _ h => h.elim), r3⟩
end
section
variable {P : Program} {e : Operand → D} {m : Mem} {dst : Option Tmp} {ty : TypeId} {pos : String} {af : Array Edge} {gd : Option (Nat × Bool)} {x y z : Operand} {t kt et : TypeId}
  {κ β : Type} [DecidableEq κ] {f : κ → List V} {h : β → V} {c : List Nat}
theorem S_entK {g : Nat} {n : Bool} {a : κ} {b : β} {es : List (κ × β)} {kt' et' : TypeId} {j : Nat} (hu : P.underlying t = some (.map kt et)) [hk : KeyI P kt f c]
    (hsb : ∀ (S : Nat → Prop) (w : World) (k k' : Value), Rd S w (.agg (f a)) k → Rd S w (.agg (f a)) k' → Instr.sameBits 10000 k k' = true)
    (h1 : e x = .mp g) (hmg : m.at g = .mapb kt' et' (mapK f h es)) (h2 : asV m (e y) = some (n, .agg (f a))) (hj : es[j]? = some (a, b)) (huq : ∀ (i : Nat) p, es[i]? = some p → p.1 = a → i = j) :
    SStep P ⟨dst, .mapEntry t x y, ty, pos, af, gd⟩ e m (g :: refs m (e y)) (.dat true (.tuple [h b, .int .i64 j])) [] := by
  intro C m' ac next Q hag hh hx hn
  have g1 := hx x (by simp [Op.operands]); rw [h1] at g1
  have g2 : RdF C false (.agg (f a)) (ac.eval y) := (asV_ok hh (fun g' hg' => hag g' (.inl (by simp [hg']))) h2 (hx y (by simp [Op.operands]))).weak hh
  obtain ⟨kt1, et1, es1, b1, hat, hi, hv⟩ := g1
  have hmg' : m'.at g = .mapb kt' et' (mapK f h es) := (hag g (.inl (by simp))).trans hmg
  have hbx := hh.box g
  rw [hmg'] at hbx
  obtain ⟨b', hi', ents, clock, q1, q2, q3, q4⟩ := hbx
  rw [hi] at hi'
  injection hi' with hi'
  subst hi'
  rcases run_findKeyI (hk := hk) g2 q2 q4 with ⟨_, f2⟩ | ⟨j', v, b2, f1, fj, f2, f3⟩
  · exfalso
    have : ∃ p ∈ es, a = p.1 := ⟨_, List.mem_of_getElem? hj, rfl⟩
    unfold lookK at f2
    rw [Option.map_eq_none_iff, List.find?_eq_none] at f2
    obtain ⟨p, hp, he⟩ := this
    exact f2 p hp (decide_eq_true he)
  have hjj := huq j' _ fj rfl
  subst hjj
  rw [hj] at fj
  injection fj with fj
  injection fj with _ fj
  subst fj
  have hsz : ents.size = es.length := by simpa [mapK] using q2
  have hjl : j' < es.length := (List.getElem?_eq_some_iff.1 hj).1
  have hej : ents[j']? = some ents[j'] := Array.getElem?_eq_getElem (by omega)
  obtain ⟨e1, _, e3⟩ := q4 j' (.agg (f a), h b) _ (by simp [mapK, hj]) hej
  have hsame := hsb _ _ _ _ (Rd.mono e1 (fun _ h => h.elim) (fun _ _ => rfl) : Rd (C.D false) C.w _ _) g2
  have hkt : (Instr.keyThatStays (((ents[j']?).map (·.key)).getD (ac.eval y)) (ac.eval y)).run P C.w = .ok (ac.eval y) C.w := by
    rw [hej]
    simp only [Option.map_some, Option.getD_some, Instr.keyThatStays, hsame, if_true, Sem.run_pure]
  have hst := map_write (kt' := kt') (et' := et') (es' := mapK f h es) (ents' := ents.modify j' fun e => { e with key := ac.eval y }) (clock' := clock) hh hmg' hi q1 (by simpa using q2) q3 (fun i p e' h1 h2 => by
    rw [Array.getElem?_modify] at h2
    split at h2
    · rename_i hij
      subst hij
      rw [hej] at h2
      simp only [Option.map_some, Option.some.injEq] at h2
      subst h2
      have hp : p = (.agg (f a), h b) := by
        simp [mapK, hj] at h1
        exact h1.symm
      subst hp
      obtain ⟨_, r2, r3⟩ := q4 j' (.agg (f a), h b) _ h1 hej
      exact ⟨Rd.flat g2 (hk.flat a), r2, r3⟩
    · exact q4 i p e' h1 h2)
  have hst := Step_congr (m1 := m') (m1' := m') (fun _ => rfl) (fun g' => by
    by_cases hg : g = g'
    · subst hg; rw [Mem.at_cons_same, hmg']
    · rw [Mem.at_cons_other _ _ hg]) hst
  refine wp_of_value (v := .tuple #[v, goInt j']) (w' := _) ?_ (hn _ _ hst ?_)
  · simp only [execOp, hv, Instr.mapEntry, Sem.run_bind, run_under hu, Result.andThen_ok, MapKept.run_getObj_map q1, Sem.run_pure, hk.chk a _ _ _ _ g2, f1, hkt, MapKept.run_setObj_map _ q1]
    rw [hej]
    simp [e3]
  · refine .tuple _ _ rfl (fun i d c' h1 h2 => ?_)
    have f3' := hst.slot (.dat true (h b)) v f3
    match i with
    | 0 => simp at h1 h2; subst h1 h2; exact f3'
    | 1 => simp at h1 h2; subst h1 h2; exact Rd.int _ _
    | i + 2 => simp at h1
theorem S_entN {g : Nat} {n : Bool} {a : κ} {b0 : β} {es : List (κ × β)} {kt' et' : TypeId} {by_ : Nat} {zv : V} (hu : P.underlying t = some (.map kt et)) [hk : KeyI P kt f c] [hz : TyI P et false 1 by_ [zv]] (hz0 : h b0 = zv) (_hfz : Flat zv)
    (h1 : e x = .mp g) (hmg : m.at g = .mapb kt' et' (mapK f h es)) (h2 : asV m (e y) = some (n, .agg (f a))) (hnew : lookK es a = none) :
    SStep P ⟨dst, .mapEntry t x y, ty, pos, af, gd⟩ e m (g :: refs m (e y)) (.dat true (.tuple [h b0, .int .i64 es.length])) [(g, .mapb kt' et' (mapK f h (es ++ [(a, b0)])))] := by
  intro C m' ac next Q hag hh hx hn
  have g1 := hx x (by simp [Op.operands]); rw [h1] at g1
  have g2 : RdF C false (.agg (f a)) (ac.eval y) := (asV_ok hh (fun g' hg' => hag g' (.inl (by simp [hg']))) h2 (hx y (by simp [Op.operands]))).weak hh
  obtain ⟨kt1, et1, es1, b1, hat, hi, hv⟩ := g1
  have hmg' : m'.at g = .mapb kt' et' (mapK f h es) := (hag g (.inl (by simp))).trans hmg
  have hbx := hh.box g
  rw [hmg'] at hbx
  obtain ⟨b', hi', ents, clock, q1, q2, q3, q4⟩ := hbx
  rw [hi] at hi'
  injection hi' with hi'
  subst hi'
  rcases run_findKeyI (hk := hk) g2 q2 q4 with ⟨f1, _⟩ | ⟨_, _, _, _, _, f2, _⟩
  case inr => rw [f2] at hnew; cases hnew
  have hsz : ents.size = es.length := by simpa [mapK] using q2
  have hcl : clock = es.length := by simpa [mapK] using q3
  have hzv := run_zero hz C.w
  have hzc := hz.zc
  simp only [List.all_cons, List.all_nil, Bool.and_true] at hzc
  have hzr : ∀ S w, Rd S w (h b0) zv.val := fun S w => by rw [hz0]; exact val_rd hzc
  have hst := map_write (kt' := kt') (et' := et') (es' := mapK f h (es ++ [(a, b0)])) (ents' := ents.push { key := ac.eval y, val := zv.val, born := clock }) (clock' := clock + 1) hh hmg' hi q1 (by simp [mapK, hsz]) (by simp [mapK, hcl]) (fun i p e' h1 h2 => by
    by_cases hlt : i < es.length
    · have h1' : (mapK f h es)[i]? = some p := by
        rw [mapK, List.map_append] at h1
        rw [List.getElem?_append_left (by simpa using hlt)] at h1
        exact h1
      have h2' : ents[i]? = some e' := by
        rw [Array.getElem?_push_lt (by omega)] at h2
        rw [← h2]; exact Array.getElem?_eq_getElem _
      exact q4 i p e' h1' h2'
    · have hi3 : i = es.length := by
        have := (List.getElem?_eq_some_iff.1 h1).1
        simp [mapK] at this
        omega
      subst hi3
      have hp : p = (.agg (f a), h b0) := by
        simp [mapK] at h1
        exact h1.symm
      have he : e' = { key := ac.eval y, val := zv.val, born := clock } := by
        rw [← hsz, Array.getElem?_push_size] at h2
        injection h2 with h2
        exact h2.symm
      subst hp he
      exact ⟨Rd.flat g2 (hk.flat a), hzr _ _, hcl⟩)
  refine wp_of_value (v := .tuple #[zv.val, goInt clock]) (w' := _) ?_ (hn _ _ hst ?_)
  · simp only [execOp, hv, Instr.mapEntry, Sem.run_bind, run_under hu, Result.andThen_ok, MapKept.run_getObj_map q1, Sem.run_pure, hk.chk a _ _ _ _ g2, f1, hzv, MapKept.run_setObj_map _ q1]
    simp [zval]
  · refine .tuple _ _ rfl (fun i d c' h1 h2 => ?_)
    match i with
    | 0 => simp at h1 h2; subst h1 h2; exact hzr _ _
    | 1 => simp at h1 h2; subst h1 h2; rw [hcl]; exact Rd.int _ _
    | i + 2 => simp at h1
omit [DecidableEq κ] in
/-- What an entry holds is written. -/
theorem S_entS {g j : Nat} {n1 n2 : Bool} {a : κ} {b b' : β} {es : List (κ × β)} {kt' et' : TypeId} (h1 : e x = .mp g) (hmg : m.at g = .mapb kt' et' (mapK f h es)) (h2 : e y = .dat n1 (.int .i64 j)) (h3 : e z = .dat n2 (h b')) (hf : Flat (h b')) (hj : es[j]? = some (a, b)) :
    SStep P ⟨none, .entryStore t x y z, ty, pos, af, gd⟩ e m [g] .any [(g, .mapb kt' et' (mapK f h (es.set j (a, b'))))] := by
  intro C m' ac next Q hag hh hx hn
  have g1 := hx x (by simp [Op.operands]); rw [h1] at g1
  have g2 := rd_int (by have := hx y (by simp [Op.operands]); rwa [h2] at this)
  have g3 : RdF C n2 (h b') (ac.eval z) := by have := hx z (by simp [Op.operands]); rwa [h3] at this
  obtain ⟨kt1, et1, es1, b1, hat, hi, hv⟩ := g1
  have hmg' : m'.at g = .mapb kt' et' (mapK f h es) := (hag g (.inl (by simp))).trans hmg
  have hbx := hh.box g
  rw [hmg'] at hbx
  obtain ⟨bb, hi', ents, clock, q1, q2, q3, q4⟩ := hbx
  rw [hi] at hi'
  injection hi' with hi'
  subst hi'
  have hsz : ents.size = es.length := by simpa [mapK] using q2
  have hjl : j < es.length := (List.getElem?_eq_some_iff.1 hj).1
  have hborn : ∀ (i : Nat) (hi : i < ents.size), (ents[i]).born = i := fun i hi => by
    have hie : i < es.length := by omega
    exact (q4 i (.agg (f es[i].1), h es[i].2) _ (by simp [mapK, hie]) (Array.getElem?_eq_getElem hi)).2.2
  have hfind : ents.findIdx? (fun e => (e.born : Int) == (j : Int)) = some j := by
    rw [Array.findIdx?_eq_some_iff_getElem]
    refine ⟨by omega, by rw [hborn j (by omega)]; simp, fun i hi => ?_⟩
    rw [hborn i (by omega)]
    simp
    omega
  have hej : ents[j]? = some ents[j] := Array.getElem?_eq_getElem (by omega)
  have hst := map_write (kt' := kt') (et' := et') (es' := mapK f h (es.set j (a, b'))) (ents' := ents.modify j fun e => { e with val := ac.eval z }) (clock' := clock) hh hmg' hi q1 (by simpa [mapK] using q2) (by simpa [mapK] using q3) (fun i p e' h1 h2 => by
    rw [Array.getElem?_modify] at h2
    rw [mapK, List.getElem?_map, List.getElem?_set] at h1
    split at h2
    · rename_i hij
      subst hij
      rw [hej] at h2
      simp only [Option.map_some, Option.some.injEq] at h2
      subst h2
      simp only [if_true, if_pos hjl, Option.map_some, Option.some.injEq] at h1
      subst h1
      obtain ⟨r1, _, r3⟩ := q4 j (.agg (f a), h b) _ (by simp [mapK, hj]) hej
      exact ⟨r1, Rd.flat g3 hf, r3⟩
    · rename_i hij
      rw [if_neg hij] at h1
      exact q4 i p e' (by rw [mapK, List.getElem?_map]; exact h1) h2)
  refine wp_of_skip (w' := _) ?_ (hn undef _ hst trivial)
  simp [execOp, hv, g2, Instr.entryStore, MapKept.run_getObj_map q1, hfind, MapKept.run_setObj_map _ q1, Result.andThen, asInt, asIntOf]
omit [DecidableEq κ] in
theorem S_entS2 {g j : Nat} {n1 n2 : Bool} {a : κ} {b b' : β} {es es' : List (κ × β)} {kt' et' : TypeId} (h1 : e x = .mp g) (hmg : m.at g = .mapb kt' et' (mapK f h es)) (h2 : e y = .dat n1 (.int .i64 j)) (h3 : e z = .dat n2 (h b')) (hf : Flat (h b')) (hj : es[j]? = some (a, b)) (he : es.set j (a, b') = es') :
    SStep P ⟨none, .entryStore t x y z, ty, pos, af, gd⟩ e m [g] .any [(g, .mapb kt' et' (mapK f h es'))] := by
  rw [← he]
  exact S_entS h1 hmg h2 h3 hf hj
theorem alt_look {l : List Oper} {i0 g0 d0 u v : Nat} {s1 : St} {n : Bool} {a : κ} {b0 : β} {es : List (κ × β)} {kt' et' : TypeId} {by_ : Nat} {zv : V} (ho : l[i0]? = some ⟨some d0, .lookup t (.tmp u) (.tmp v) false, ty, pos, af, none⟩) (hu : P.underlying t = some (.map kt et)) [hk : KeyI P kt f c] [hz : TyI P et false 1 by_ [zv]] (hz0 : h b0 = zv)
    (hx : s1.env.at u = .mp g0) (hy : s1.env.at v = .dat n (.agg (f a))) (hm : s1.mem.at g0 = .mapb kt' et' (mapK f h es)) {w : β} (hv : s1.env.at d0 = .dat true (h w)) (hw : (lookK es a).getD b0 = w) : Alt P l i0 g0 s1 := by
  intro o0 h0
  rw [ho] at h0
  injection h0 with h0
  subst h0
  refine ⟨d0, rfl, fun st he hme => ?_⟩
  rw [hv, ← hw]
  have e1 : ev st (.tmp u) = .mp g0 := (he u (by
    simp only [Oper.looksAt, List.mem_append, List.mem_filterMap]
    exact .inl ⟨.tmp u, by simp [Op.operands], rfl⟩)).trans hx
  have e2 : ev st (.tmp v) = .dat n (.agg (f a)) := (he v (by
    simp only [Oper.looksAt, List.mem_append, List.mem_filterMap]
    exact .inl ⟨.tmp v, by simp [Op.operands], rfl⟩)).trans hy
  exact ⟨_, .plain rfl (S_lookupK hu hz0 e1 (hme.trans hm) (by rw [e2]; rfl))⟩
end
theorem dnilX {P : Program} {l l2 : List Oper} {os : Array Oper} {s : St} {acc : List (List Nat × List Nat)} {i0 g0 : Nat} {K : List (List Nat × List Nat) → St → Prop} (ha : Alt P l i0 g0 s) (hk : DOps P os l2 s acc K) : DOps P os [] s acc (fun acc1 s1 => Alt P l i0 g0 s1 ∧ DOps P os l2 s1 acc1 K) := dnil ⟨ha, hk⟩
theorem dnilY {P : Program} {l : List Oper} {os : Array Oper} {s : St} {acc : List (List Nat × List Nat)} {n1 i0 j0 g0 : Nat} {Q : Exit → St → Prop} (hc : chkX l n1 i0 j0 g0 acc = true) (hk : Q .normal s) : DOps P os [] s acc (fun acc s' => chkX l n1 i0 j0 g0 acc = true ∧ Q .normal s') := dnil ⟨hc, hk⟩
end Go.Proofs.Ytkppkgahdoglpaa
