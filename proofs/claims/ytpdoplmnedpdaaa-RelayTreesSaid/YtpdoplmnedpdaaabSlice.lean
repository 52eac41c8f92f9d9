/- Slices of data slices, and of strings. -/
import Derived.Test.YtpdoplmnedpdaaabApp
namespace Go.Proofs.Ytpdoplmnedpdaaa
open Go.RowKit

/-- What a bound of a slice expression is: a number, or the default. -/
inductive BndD : Option D → Nat → Nat → Prop
  | none (d : Nat) : BndD none d d
  | some (n : Bool) (k : IntKind) (i : Int) (d v : Nat) (h : i = (v : Int)) : BndD (some (.dat n (.int k i))) d v

section
variable {P : Program} {e : Operand → D} {m : Mem} {dst : Option Tmp} {ty : TypeId} {pos : String} {af : Array Edge} {gd : Option (Nat × Bool)} {x : Operand} {t : TypeId}

theorem run_bound {w : World} {k : IntKind} {v y : Nat} {c : BoundsCode} (h : v ≤ y) : (Instr.sliceBound (.int k (v : Int)) y c).run P w = .ok v w := by
  have h1 : (v : Int) ≤ (y : Int) := by omega
  simp [Instr.sliceBound, asIntOf, h1]

theorem run_bounds {C : Cf} {m' : Mem} {isS : Bool} {len cap l h : Nat} {lo hi : Option Operand} {ac : Act} (hlo : BndD (lo.map e) 0 l) (hhi : BndD (hi.map e) len h) (h1 : l ≤ h) (h2 : h ≤ cap)
    (hl : ∀ o, lo = some o → RdD C m' (e o) (ac.eval o)) (hh : ∀ o, hi = some o → RdD C m' (e o) (ac.eval o)) :
    (Instr.sliceBounds isS len cap (lo.map ac.eval) (hi.map ac.eval) none).run P C.w = .ok (l, h, cap) C.w := by
  have e1 : hi.map ac.eval = none ∧ h = len ∨ ∃ k, hi.map ac.eval = some (.int k (h : Int)) := by
    cases hi with
    | none => cases hhi; exact .inl ⟨rfl, rfl⟩
    | some o =>
      have g := hh o rfl
      simp only [Option.map_some] at hhi ⊢
      generalize e o = d at g hhi
      cases hhi with
      | some n k i _ _ hv => exact .inr ⟨k, by rw [rd_int g, hv]⟩
  have e2 : lo.map ac.eval = none ∧ l = 0 ∨ ∃ k, lo.map ac.eval = some (.int k (l : Int)) := by
    cases lo with
    | none => cases hlo; exact .inl ⟨rfl, rfl⟩
    | some o =>
      have g := hl o rfl
      simp only [Option.map_some] at hlo ⊢
      generalize e o = d at g hlo
      cases hlo with
      | some n k i _ _ hv => exact .inr ⟨k, by rw [rd_int g, hv]⟩
  rcases e1 with ⟨e1, rfl⟩ | ⟨k1, e1⟩ <;> rcases e2 with ⟨e2, rfl⟩ | ⟨k2, e2⟩ <;> rw [e1, e2]
  · simp [Instr.sliceBounds]
  · simp [Instr.sliceBounds, run_bound h1]
  · simp [Instr.sliceBounds, run_bound h2]
  · simp [Instr.sliceBounds, run_bound h2, run_bound h1]

theorem S_slice {n agg : Bool} {el s by_ l h : Nat} {zs : List V} {xs : List (List V)} {lo hi : Option Operand} [hu : SlcI P t el] [ht : TyI P el agg s by_ zs] (h1 : e x = .dat n (.slice xs)) (hlo : BndD (lo.map e) 0 l) (hhi : BndD (hi.map e) xs.length h)
    (hle : l ≤ h) (hhl : h ≤ xs.length) (hs : ∀ y ∈ xs, y.length = s) :
    SStep P ⟨dst, .slice t x lo hi none, ty, pos, af, gd⟩ e m [] (.dat n (.slice ((xs.drop l).take (h - l)))) [] :=
  .pure fun C m' ac _ hm hx => by
    have g1 := hx x (by simp [Op.operands]); rw [h1] at g1
    have gl : ∀ o, lo = some o → RdD C m' (e o) (ac.eval o) := fun o ho => hx o (by subst ho; simp [Op.operands])
    have gh : ∀ o, hi = some o → RdD C m' (e o) (ac.eval o) := fun o ho => hx o (by subst ho; simp [Op.operands])
    have hexec : ∀ v, (Instr.slice t (ac.eval x) (lo.map ac.eval) (hi.map ac.eval) none).run P C.w = .ok v C.w → (execOp ac.eval ⟨dst, .slice t x lo hi none, ty, pos, af, gd⟩).run P C.w = .ok (.value v) C.w := fun v hv => by
      simp [execOp, Instr.sliceAt, run_under hu.out, hv]
    generalize hxx : V.slice xs = X at g1
    have g1 : Rd (C.D n) C.w X (ac.eval x) := g1
    cases hg : ac.eval x with
    | slice a len cap =>
      rw [hg] at g1
      have hrun : h ≤ cap → len = xs.length → (Instr.slice t (ac.eval x) (lo.map ac.eval) (hi.map ac.eval) none).run P C.w = .ok (.slice (if cap = l then a else a.map (·.add (l * s))) (h - l) (cap - l)) C.w := fun hc hlen => by
        rw [hg]
        subst hlen
        simp only [Instr.slice, Sem.run_bind, run_under hu.out, Result.andThen_ok, run_bounds hlo hhi hle hc gl gh, run_size ht, Sem.run_pure]
      cases g1 with
      | nil =>
        injection hxx with hxx; subst hxx
        simp at hhl; subst hhl
        obtain rfl : l = 0 := by omega
        refine ⟨_, hexec _ (hrun (Nat.le_refl _) rfl), ?_⟩
        show Rd _ _ _ _
        simp
        exact Rd.nil
      | undef => cases hxx
      | mt a cap hmx =>
        injection hxx with hxx; subst hxx
        simp at hhl; subst hhl
        obtain rfl : l = 0 := by omega
        refine ⟨_, hexec _ (hrun (Nat.zero_le _) rfl), ?_⟩
        show Rd _ _ _ _
        by_cases hc : cap = 0
        · simp [hc]; exact Rd.mt a 0 (by omega)
        · simp [hc]; exact Rd.mt _ cap hmx
      | slice _ b off cap sz cell hcap hmx hsz hone hS hw hr =>
        injection hxx with hxx; subst hxx
        refine ⟨_, hexec _ (hrun (by omega) rfl), ?_⟩
        show Rd _ _ _ _
        by_cases hc : cap = l
        · have e0 : (xs.drop l).take (h - l) = [] := by rw [show h - l = 0 by omega]; simp
          rw [e0, if_pos hc, show h - l = 0 by omega]
          exact Rd.mt _ _ (by omega)
        · rw [if_neg hc]
          simp only [Option.map_some, aadd]
          have hlen : ((xs.drop l).take (h - l)).length = h - l := by simp; omega
          have hget : ∀ (i : Nat) (y : List V), ((xs.drop l).take (h - l))[i]? = some y → xs[l + i]? = some y := fun i y hy => by
            rw [List.getElem?_take] at hy
            split at hy
            · rwa [List.getElem?_drop] at hy
            · cases hy
          have hss : ∀ (i : Nat) (y : List V), ((xs.drop l).take (h - l))[i]? = some y → sz = s := fun i y hy => by
            rw [← hsz _ _ (hget i y hy)]
            exact hs y (List.mem_of_getElem? (hget i y hy))
          have := Rd.slice (S := C.D n) (w := C.w) ((xs.drop l).take (h - l)) b (off + l * s) (cap - l) s (fun i j => cell (l + i) j) (by omega) (by omega)
            (fun i y hy => by rw [← hss i y hy]; exact hsz _ _ (hget i y hy)) (fun i j y d hy hd => hone _ _ _ _ (hget i y hy) hd) (fun hne => hS (by rintro rfl; simp at hne))
            (fun i j y d hy hd => by
              have := hw _ _ _ _ (hget i y hy) hd
              rw [hss i y hy] at this
              rw [← this]
              congr 2
              rw [Nat.add_mul]; omega)
            (fun i j y d hy hd => hr _ _ _ _ (hget i y hy) hd)
          rw [hlen] at this
          exact this
    | _ => rw [hg] at g1; subst hxx; cases g1
theorem extract_list (s : List UInt8) (l h : Nat) : (⟨s.toArray⟩ : ByteArray).extract l h = ⟨((s.drop l).take (h - l)).toArray⟩ := by
  apply ByteArray.ext
  simp [ByteArray.data_extract]
theorem S_slice_str {n : Bool} {l h : Nat} {s : List UInt8} {lo hi : Option Operand} (hu : P.underlying t = some .string) (h1 : e x = .dat n (.str s)) (hlo : BndD (lo.map e) 0 l) (hhi : BndD (hi.map e) s.length h)
    (hle : l ≤ h) (hhl : h ≤ s.length) :
    SStep P ⟨dst, .slice t x lo hi none, ty, pos, af, gd⟩ e m [] (.dat true (.str ((s.drop l).take (h - l)))) [] :=
  .pure fun C m' ac _ hm hx => by
    have g1 := hx x (by simp [Op.operands]); rw [h1] at g1
    have gl : ∀ o, lo = some o → RdD C m' (e o) (ac.eval o) := fun o ho => hx o (by subst ho; simp [Op.operands])
    have gh : ∀ o, hi = some o → RdD C m' (e o) (ac.eval o) := fun o ho => hx o (by subst ho; simp [Op.operands])
    refine ⟨.string ⟨((s.drop l).take (h - l)).toArray⟩, ?_, Rd.str _⟩
    have hb := run_bounds (P := P) (C := C) (isS := false) (cap := s.length) hlo hhi hle hhl gl gh
    have hsz : (⟨s.toArray⟩ : ByteArray).size = s.length := by simp [ByteArray.size]
    simp [execOp, Instr.sliceAt, run_under hu, rd_str g1, Instr.slice, hsz, hb, extract_list]
end
end Go.Proofs.Ytpdoplmnedpdaaa
