/- Counting vectors in a map: mathematics; vectors as keys. -/
import Derived.ChangeKeysEq
import Derived.Test.YtkppkgahdoglpaavbInp
import Derived.Test.YtkppkgahdoglpaavbMpe
import Derived.Test.YtkppkgahdoglpaavcSrt
import Derived.Test.YtkppkgahdoglpaaveChoose
namespace Go.Proofs.Ytkppkgahdoglpaa
open Go.RowKit
theorem eqL_vecK (a b : Vec) : eqL a.cells b.cells = some (decide (a = b)) := by
  by_cases h : a = b
  · subst h; simp [Vec.cells, eqL, V.eq1]
  · rw [decide_eq_false h]
    obtain ⟨a1, a2, a3, a4⟩ := a
    obtain ⟨b1, b2, b3, b4⟩ := b
    simp only [Vec.cells, eqL, V.eq1]
    simp at h ⊢
    omega
theorem vec_chk (w : World) (e : Bool) (a b c d : Int) : (Instr.checkKey e 10000 48 (.agg #[.int .u64 a, .int .i64 b, .int .u64 c, .int .i64 d])).run Try.prog w = .ok () w := by
  have hu := Try.underlying48
  have hi := Try.underlying3
  have hj := Try.underlying34
  have hp : Try.prog.plainKey 3 = true := by simp [Program.plainKey, hi]
  have hq : Try.prog.plainKey 34 = true := by simp [Program.plainKey, hj]
  have p0 : (part 34 #[.int .u64 a, .int .i64 b, .int .u64 c, .int .i64 d] 0).run Try.prog w = .ok (.int .u64 a) w := run_part_plain w hq rfl
  have p1 : (part 3 #[.int .u64 a, .int .i64 b, .int .u64 c, .int .i64 d] 1).run Try.prog w = .ok (.int .i64 b) w := run_part_plain w hp rfl
  have p2 : (part 34 #[.int .u64 a, .int .i64 b, .int .u64 c, .int .i64 d] 2).run Try.prog w = .ok (.int .u64 c) w := run_part_plain w hq rfl
  have p3 : (part 3 #[.int .u64 a, .int .i64 b, .int .u64 c, .int .i64 d] 3).run Try.prog w = .ok (.int .i64 d) w := run_part_plain w hp rfl
  have c0 : ∀ x : Int, (Instr.checkKey e 9999 3 (.int .i64 x)).run Try.prog w = .ok () w := fun x => by
    rw [show (9999 : Nat) = 9998 + 1 from rfl, Instr.checkKey]; simp [run_under hi]
  have c1 : ∀ x : Int, (Instr.checkKey e 9999 34 (.int .u64 x)).run Try.prog w = .ok () w := fun x => by
    rw [show (9999 : Nat) = 9998 + 1 from rfl, Instr.checkKey]; simp [run_under hj]
  rw [show (10000 : Nat) = 9999 + 1 from rfl, Instr.checkKey]
  simp only [Sem.run_bind, run_under hu, Result.andThen_ok]
  simp [p0, p1, p2, p3, c0, c1]
theorem vec_vals {S : Nat → Prop} {w : World} {v : Vec} {k : Value} (h : Rd S w (.agg v.cells) k) : k = .agg #[.int .u64 v.root, .int .i64 v.cost, .int .u64 v.bridge, .int .i64 v.port] := by
  cases h with
  | agg _ vs hl hr =>
    obtain ⟨xs⟩ := vs
    match xs, hl, hr with
    | [x, y, z, u], _, hr =>
      have h0 := hr 0 (.int .u64 v.root) x rfl rfl
      have h1 := hr 1 (.int .i64 v.cost) y rfl rfl
      have h2 := hr 2 (.int .u64 v.bridge) z rfl rfl
      have h3 := hr 3 (.int .i64 v.port) u rfl rfl
      rw [rv_int h0, rv_int h1, rv_int h2, rv_int h3]
instance vecKey : KeyI Try.prog 48 Vec.cells [1, 1, 1, 1] where
  q := inferInstance
  codes := fun _ => rfl
  eq := eqL_vecK
  chk := fun p S e w v h => by rw [vec_vals h]; exact vec_chk w e _ _ _ _
  flat := fun p => .agg _ (fun j d h => by
    have := List.mem_of_getElem? h
    simp only [Vec.cells, List.mem_cons, List.mem_nil_iff, or_false] at this
    rcases this with rfl | rfl | rfl | rfl <;> exact .int _ _)
  now := ⟨_, Try.underlying48, fun _ _ => rfl⟩
theorem vec_bits (v : Vec) (S : Nat → Prop) (w : World) (k k' : Value) (h : Rd S w (.agg v.cells) k) (h' : Rd S w (.agg v.cells) k') : Instr.sameBits 10000 k k' = true := by
  rw [vec_vals h, vec_vals h', show (10000 : Nat) = 9998 + 1 + 1 from rfl]
  simp [Instr.sameBits]
def updK (es : List (Vec × Int)) (a : Vec) (x : Int) : List (Vec × Int) := match es with
  | [] => [(a, x)]
  | (k, b) :: r => if a = k then (k, x) :: r else (k, b) :: updK r a x
theorem lookK_cons {k : Vec} {b : Int} {r : List (Vec × Int)} {v : Vec} : lookK ((k, b) :: r) v = if v = k then some b else lookK r v := by
  unfold lookK
  by_cases h : v = k
  · rw [if_pos h, List.find?_cons_of_pos (by simpa using h)]; rfl
  · rw [if_neg h, List.find?_cons_of_neg (by simpa using h)]
theorem lookK_upd (a : Vec) (x : Int) (v : Vec) : ∀ es : List (Vec × Int), lookK (updK es a x) v = if v = a then some x else lookK es v
  | [] => by unfold updK; rw [lookK_cons]
  | (k, b) :: r => by
    unfold updK
    split
    · rename_i h; subst h
      rw [lookK_cons, lookK_cons]; split <;> rfl
    · rename_i h
      rw [lookK_cons, lookK_upd a x v r, lookK_cons]
      by_cases h1 : v = k
      · rw [if_pos h1, if_neg (fun h2 => h (h2.symm.trans h1)), if_pos h1]
      · rw [if_neg h1, if_neg h1]
theorem keys_upd (a : Vec) (x : Int) : ∀ {es : List (Vec × Int)}, ∀ k ∈ (updK es a x).map (·.1), k = a ∨ k ∈ es.map (·.1)
  | [], k, h => by simp [updK] at h; exact .inl h
  | (q, b) :: r, k, h => by
    unfold updK at h
    split at h
    · exact .inr h
    · rw [List.map_cons] at h
      rcases List.mem_cons.1 h with h | h
      · exact .inr (by rw [List.map_cons, h]; exact List.mem_cons_self ..)
      · rcases keys_upd a x k h with h | h
        · exact .inl h
        · exact .inr (List.mem_cons_of_mem _ h)
theorem nodup_upd (a : Vec) (x : Int) : ∀ {es : List (Vec × Int)}, (es.map (·.1)).Nodup → ((updK es a x).map (·.1)).Nodup
  | [], _ => by simp [updK]
  | (k, b) :: r, h => by
    rw [List.map_cons, List.nodup_cons] at h
    unfold updK
    split
    · rw [List.map_cons, List.nodup_cons]; exact h
    · rename_i hne
      rw [List.map_cons, List.nodup_cons]
      refine ⟨fun hm => ?_, nodup_upd a x h.2⟩
      rcases keys_upd a x _ hm with h1 | h1
      · exact hne h1.symm
      · exact h.1 h1
theorem look_cases (a : Vec) : ∀ {es : List (Vec × Int)}, (es.map (·.1)).Nodup →
    (lookK es a = none ∧ ∀ x y, (es ++ [(a, y)]).set es.length (a, x) = updK es a x) ∨
    ∃ j b, lookK es a = some b ∧ es[j]? = some (a, b) ∧ (∀ (i : Nat) p, es[i]? = some p → p.1 = a → i = j) ∧ ∀ x, es.set j (a, x) = updK es a x
  | [], _ => .inl ⟨rfl, fun x y => rfl⟩
  | (k, b) :: r, h => by
    rw [List.map_cons, List.nodup_cons] at h
    by_cases hk : a = k
    · subst hk
      refine .inr ⟨0, b, by rw [lookK_cons, if_pos rfl], rfl, fun i p hp he => ?_, fun x => by unfold updK; rw [if_pos rfl]; rfl⟩
      cases i with
      | zero => rfl
      | succ i =>
        rw [List.getElem?_cons_succ] at hp
        exact absurd (List.mem_map.2 ⟨p, List.mem_of_getElem? hp, he⟩) h.1
    · rcases look_cases a h.2 with ⟨h1, h2⟩ | ⟨j, b', h1, h2, h3, h4⟩
      · refine .inl ⟨by rw [lookK_cons, if_neg hk, h1], fun x y => ?_⟩
        rw [List.cons_append, List.length_cons, List.set_cons_succ, h2]
        rw [updK, if_neg hk]
      · refine .inr ⟨j + 1, b', by rw [lookK_cons, if_neg hk, h1], by rw [List.getElem?_cons_succ]; exact h2, fun i p hp he => ?_, fun x => ?_⟩
        · cases i with
          | zero => simp only [List.getElem?_cons_zero, Option.some.injEq] at hp; subst hp; exact absurd he.symm hk
          | succ i => rw [List.getElem?_cons_succ] at hp; rw [h3 i p hp he]
        · rw [List.set_cons_succ, h4]
          rw [updK, if_neg hk]
theorem look_mem {es : List (Vec × Int)} (hn : (es.map (·.1)).Nodup) {p : Vec × Int} (hp : p ∈ es) : lookK es p.1 = some p.2 := by
  obtain ⟨i, hi, rfl⟩ := List.getElem_of_mem hp
  rcases look_cases es[i].1 hn with ⟨h1, _⟩ | ⟨j, b, h1, h2, h3, _⟩
  · exfalso
    unfold lookK at h1
    rw [Option.map_eq_none_iff, List.find?_eq_none] at h1
    exact h1 _ hp (by simp)
  · have hij := h3 i es[i] (List.getElem?_eq_getElem hi) rfl
    subst hij
    rw [List.getElem?_eq_getElem hi] at h2
    injection h2 with h2
    rw [h1, h2]
theorem look_new {es : List (Vec × Int)} {a : Vec} (h : lookK es a = none) : (lookK (es ++ [(a, (0 : Int))]) a).getD 0 = (lookK es a).getD 0 := by
  rw [h]
  induction es with
  | nil => rw [List.nil_append, lookK_cons, if_pos rfl]; rfl
  | cons p r ih =>
    obtain ⟨k, b⟩ := p
    rw [lookK_cons] at h
    split at h
    · cases h
    · rename_i hne
      rw [List.cons_append, lookK_cons, if_neg hne]
      exact ih h
def cntV (v : Vec) (l : List Vec) : Int := l.count v
theorem cnt_take {v : Vec} {l : List Vec} {k : Nat} {x : Vec} (h : l[k]? = some x) : cntV v (l.take (k + 1)) = cntV v (l.take k) + if v = x then 1 else 0 := by
  unfold cntV
  rw [List.take_add_one, h, List.count_append]
  by_cases hv : v = x
  · subst hv; simp
  · rw [if_neg hv, show ((some x).toList.count v) = 0 from by rw [Option.toList_some, List.count_singleton]; simp [Ne.symm hv]]
    simp
theorem cnt_le (v : Vec) (l : List Vec) (k : Nat) : 0 ≤ cntV v (l.take k) ∧ cntV v (l.take k) ≤ k := by
  unfold cntV
  have h1 := List.count_le_length (a := v) (l := l.take k)
  have h2 := List.length_take_le k l
  omega
end Go.Proofs.Ytkppkgahdoglpaa
