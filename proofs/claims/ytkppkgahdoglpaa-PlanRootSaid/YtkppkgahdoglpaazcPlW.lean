/- Maps by ports, as sets. -/
import Derived.ChangeKeysEq
import Derived.Test.YtkppkgahdoglpaazdPlB
namespace Go.Proofs.Ytkppkgahdoglpaa
open Go.RowKit
theorem eqL_port (a b : Int × Int) : eqL (portV a) (portV b) = some (decide (a = b)) := by
  obtain ⟨a1, a2⟩ := a
  obtain ⟨b1, b2⟩ := b
  by_cases h : (a1, a2) = (b1, b2)
  · rw [decide_eq_true h]
    injection h with h1 h2
    subst h1 h2
    simp [portV, eqL, V.eq1]
  · rw [decide_eq_false h]
    simp only [portV, eqL, V.eq1]
    simp at h ⊢
    omega
theorem port_chk (w : World) (e : Bool) (a b : Int) : (Instr.checkKey e 10000 55 (.agg #[.int .i64 a, .int .i64 b])).run Try.prog w = .ok () w := by
  have hu := Try.underlying55
  have hi := Try.underlying3
  have hp : Try.prog.plainKey 3 = true := by simp [Program.plainKey, hi]
  have p0 : (part 3 #[.int .i64 a, .int .i64 b] 0).run Try.prog w = .ok (.int .i64 a) w := run_part_plain w hp rfl
  have p1 : (part 3 #[.int .i64 a, .int .i64 b] 1).run Try.prog w = .ok (.int .i64 b) w := run_part_plain w hp rfl
  have c0 : ∀ x : Int, (Instr.checkKey e 9999 3 (.int .i64 x)).run Try.prog w = .ok () w := fun x => by
    rw [show (9999 : Nat) = 9998 + 1 from rfl, Instr.checkKey]; simp [run_under hi]
  rw [show (10000 : Nat) = 9999 + 1 from rfl, Instr.checkKey]
  simp only [Sem.run_bind, run_under hu, Result.andThen_ok]
  simp [p0, p1, c0]
instance portKey : KeyI Try.prog 55 portV [1, 1] where
  q := inferInstance
  codes := fun _ => rfl
  eq := eqL_port
  chk := fun p S e w v h => by
    obtain ⟨a, b⟩ := p
    cases h with
    | agg _ vs hl hr =>
      obtain ⟨xs⟩ := vs
      match xs, hl, hr with
      | [x, y], _, hr =>
        have h0 := hr 0 (.int .i64 a) x rfl rfl
        have h1 := hr 1 (.int .i64 b) y rfl rfl
        rw [rv_int h0, rv_int h1]
        exact port_chk w e a b
  flat := fun p => .agg _ (fun j d h => by
    obtain ⟨a, b⟩ := p
    have := List.mem_of_getElem? h
    simp only [portV, List.mem_cons, List.mem_nil_iff, or_false] at this
    rcases this with rfl | rfl <;> exact .int _ _)
  now := ⟨_, Try.underlying55, fun _ _ => rfl⟩
def hadE (had : List (Int × Int)) : List ((Int × Int) × Bool) := had.map fun p => (p, true)
theorem lookK_had {had : List (Int × Int)} {p : Int × Int} : lookK (hadE had) p = if p ∈ had then some true else none := by
  induction had with
  | nil => rfl
  | cons q r ih =>
    unfold lookK hadE at *
    rw [List.map_cons]
    by_cases h : p = q
    · rw [List.find?_cons_of_pos (by simpa using h), if_pos (by simp [h])]; rfl
    · rw [List.find?_cons_of_neg (by simpa using h), ih]
      simp [h]
section
variable {P : Program} {e : Operand → D} {m : Mem} {dst : Option Tmp} {ty : TypeId} {pos : String} {af : Array Edge} {gd : Option (Nat × Bool)} {x y z : Operand} {t : TypeId}
theorem S_lookHad {g : Nat} {kt' et' : TypeId} {n : Bool} {p : Int × Int} {had : List (Int × Int)} {b : Bool} {kt et : TypeId} [hk : KeyI P kt portV [1, 1]] (hu : P.underlying t = some (.map kt et)) {by_ : Nat} [hz : TyI P et false 1 by_ [.bool false]]
    (hb : decide (p ∈ had) = b) (h1 : e x = .mp g) (hmg : m.at g = .mapb kt' et' (mapK portV V.bool (hadE had))) (h2 : asV m (e y) = some (n, .agg (portV p))) :
    SStep P ⟨dst, .lookup t x y false, ty, pos, af, gd⟩ e m (g :: refs m (e y)) (.dat true (.bool b)) [] := by
  have := S_lookupK (P := P) (b0 := false) (h := V.bool) (f := portV) (dst := dst) (ty := ty) (pos := pos) (af := af) (gd := gd) hu rfl h1 hmg h2
  have e2 : (lookK (hadE had) p).getD false = b := by
    rw [lookK_had, ← hb]
    by_cases h : p ∈ had
    · rw [if_pos h, decide_eq_true h]; rfl
    · rw [if_neg h, decide_eq_false h]; rfl
  rw [e2] at this
  exact this
theorem S_setHad {g : Nat} {n1 n2 : Bool} {p : Int × Int} {had : List (Int × Int)} {kt' et' kt et : TypeId} [hk : KeyI P kt portV [1, 1]] (hu : P.underlying t = some (.map kt et)) (hb : p ∉ had)
    (h1 : e x = .mp g) (hmg : m.at g = .mapb kt' et' (mapK portV V.bool (hadE had))) (h2 : asV m (e y) = some (n1, .agg (portV p))) (h3 : e z = .dat n2 (.bool true)) :
    SStep P ⟨none, .mapUpdate t x y z, ty, pos, af, gd⟩ e m (g :: refs m (e y)) .any [(g, .mapb kt' et' (mapK portV V.bool (hadE (had ++ [p]))))] := by
  have := S_setK (P := P) (h := V.bool) (f := portV) (b := true) (ty := ty) (pos := pos) (af := af) (gd := gd) hu h1 hmg h2 h3 (.bool _) (by rw [lookK_had, if_neg hb])
  have e2 : hadE had ++ [(p, true)] = hadE (had ++ [p]) := by simp [hadE]
  rw [e2] at this
  exact this
end
end Go.Proofs.Ytkppkgahdoglpaa
