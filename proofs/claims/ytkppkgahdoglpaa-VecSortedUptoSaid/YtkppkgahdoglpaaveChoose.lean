/- Contracts: vec.Choose. -/
import Derived.Test.YtkppkgahdoglpaavbGo
import Derived.Test.YtkppkgahdoglpaavcSrt
namespace Go.Proofs.Ytkppkgahdoglpaa
open Go.RowKit
structure Offer where
  port : Int
  cost : Int
  age : Int
  vec : Vec
def Offer.cells (o : Offer) : List V := [.int .i64 o.port, .int .i64 o.cost, .int .i64 o.age, .int .u64 o.vec.root, .int .i64 o.vec.cost, .int .u64 o.vec.bridge, .int .i64 o.vec.port]
def offers (l : List Offer) : V := .slice (l.map Offer.cells)
structure Ch where
  best : Vec
  age : Int
  port : Int
def Ch.step (id : Int) (s : Ch) (o : Offer) : Ch :=
  match o.vec.over o.cost with
  | none => s
  | some v => if o.port < 0 ∨ o.age < 0 ∨ 20 ≤ o.age ∨ id ≤ v.root then s
    else if (if s.port < 0 then -1 else v.cmp s.best) < 0 ∨ ((if s.port < 0 then -1 else v.cmp s.best) = 0 ∧ o.port < s.port) then ⟨v, o.age + 1, o.port⟩ else s
def Ch.start (id : Int) : Ch := ⟨⟨id, 0, 0, 0⟩, 0, -1⟩
def chooseS (id : Int) (l : List Offer) : Ch := l.foldl (Ch.step id) (.start id)
def Ch.says (id : Int) (s : Ch) : Vec := ⟨s.best.root, s.best.cost, id, 0⟩
theorem Ch.step_skip {id : Int} {c : Ch} {o : Offer} (h : (o.vec.over o.cost).isSome = true → 0 ≤ o.port → 0 ≤ o.age → o.age < 20 → id ≤ ((o.vec.over o.cost).getD .zero).root) : c.step id o = c := by
  unfold Ch.step
  cases hv : o.vec.over o.cost with
  | none => rfl
  | some v =>
    simp only [hv, Option.isSome_some, Option.getD_some, true_implies] at h
    simp only
    rw [if_pos]
    omega
theorem Ch.step_in {id : Int} {c : Ch} {o : Offer} (h0 : (o.vec.over o.cost).isSome = true) (h1 : 0 ≤ o.port) (h2 : 0 ≤ o.age) (h3 : o.age < 20) (h4 : ((o.vec.over o.cost).getD .zero).root < id) :
    c.step id o = if (c.port < 0 ∨ ((o.vec.over o.cost).getD .zero).cmp c.best < 0 ∨ (((o.vec.over o.cost).getD .zero).cmp c.best = 0 ∧ o.port < c.port)) then ⟨(o.vec.over o.cost).getD .zero, o.age + 1, o.port⟩ else c := by
  unfold Ch.step
  cases hv : o.vec.over o.cost with
  | none => simp [hv] at h0
  | some v =>
    simp only [hv, Option.getD_some] at h4 ⊢
    rw [if_neg (by omega)]
    by_cases hp : c.port < 0
    · simp [hp]
    · simp [hp]
def Offer.good (id : Int) (o : Offer) : Prop := (o.vec.over o.cost).isSome = true ∧ 0 ≤ o.port ∧ 0 ≤ o.age ∧ o.age < 20 ∧ ((o.vec.over o.cost).getD .zero).root < id
theorem Offer.good_true {id : Int} {o : Offer} (h : o.good id) : ((((!(o.vec.over o.cost).isSome) || decide (o.port < 0)) || decide (o.age < 0)) || decide (20 ≤ o.age) || decide (id ≤ ((o.vec.over o.cost).getD .zero).root)) = false := by
  obtain ⟨h0, h1, h2, h3, h4⟩ := h
  rw [h0, decide_eq_false (by omega), decide_eq_false (by omega), decide_eq_false (by omega), decide_eq_false (by omega)]; rfl
theorem Offer.good_false {id : Int} {o : Offer} (h : ¬ o.good id) : ((((!(o.vec.over o.cost).isSome) || decide (o.port < 0)) || decide (o.age < 0)) || decide (20 ≤ o.age) || decide (id ≤ ((o.vec.over o.cost).getD .zero).root)) = true := by
  cases hs : ((((!(o.vec.over o.cost).isSome) || decide (o.port < 0)) || decide (o.age < 0)) || decide (20 ≤ o.age) || decide (id ≤ ((o.vec.over o.cost).getD .zero).root)) with
  | true => rfl
  | false =>
    simp only [Bool.or_eq_false_iff, Bool.not_eq_false', decide_eq_false_iff_not] at hs
    exact absurd ⟨hs.1.1.1.1, by omega, by omega, by omega, by omega⟩ h
theorem Ch.step_bad {id : Int} {c : Ch} {o : Offer} (h : ¬ o.good id) : c.step id o = c := Ch.step_skip (fun h0 h1 h2 h3 => by
  by_cases h4 : ((o.vec.over o.cost).getD .zero).root < id
  · exact absurd ⟨h0, h1, h2, h3, h4⟩ h
  · omega)
attribute [local irreducible] SStep DW DOps thenQ inBlk loopQ retQ retQG FnF FnG Wk IntKind.wrap IntKind.andI IntKind.orI IntKind.xorI IntKind.andNotI IntKind.shlI IntKind.shrI Vec.cmp Ch.step
set_option maxHeartbeats 2000000 in
theorem vec_Choose (id : Int) (l : List Offer) : FnF Try.prog 39 [.int .u64 id, offers l] (.tuple [((chooseS id l).says id).v, .int .i64 (chooseS id l).age, .int .i64 (chooseS id l).port]) := by
  refine fnF_of Try.func39 rfl rfl rfl ?_
  simp only [envOf, offers]
  refine DW_len 1 rfl (fun hlen => ?_)
  have hml : (l.map Offer.cells).length = l.length := by simp
  repeat' (first
    | (apply Stp.go; case a => constructor)
    | refine blk_hit rfl ?_ | refine blk_miss rfl ?_ | refine dnilD (by kernel_rfl) ?_ | refine DW_cond_t rfl ?_ | refine DW_cond_f rfl ?_
    | refine dpOff rfl rfl ?_
    | ((first | apply dX rfl | apply dXon rfl rfl | apply dpMay rfl rfl (by intro h; first | trivial | exact ⟨h, trivial⟩ | exact ⟨h, h, trivial⟩ | exact ⟨h, h, h, trivial⟩)); (case h => ((try intro hg); first | exact S_al rfl | exact S_bx rfl rfl | exact S_store rfl rfl rfl rfl rfl rfl | (apply Pu.ok; repeat' (first | rfl | exact .inK (by simp only [InK]; omega) | exact .inK (by simp only [InK]; simp at hg; omega) | exact .wr | constructor | decide | omega)))); (try case hp => constructor))
    | refine dpickAnd rfl rfl rfl rfl rfl ?_ | refine dpickOr rfl rfl rfl rfl rfl ?_
    | fail)
  refine DW_loop (fun p : Nat × Ch => ⟨[(0, .dat false (.int .u64 id)), (4, .ptr 4 0), (7, .ptr 7 0), (8, .dat true (.int .i64 p.2.age)), (9, .dat true (.int .i64 p.2.port)), (17, .dat false (.slice (l.map Offer.cells))),
      (18, .dat true (.int .i64 (l.map Offer.cells).length)), (19, .dat true (.int .i64 p.1))],
      [(7, .cells false true [.dat true (.int .u64 p.2.best.root), .dat true (.int .i64 p.2.best.cost), .dat true (.int .u64 p.2.best.bridge), .dat true (.int .i64 p.2.best.port)]),
       (4, .cells false true [.dat true (.int .u64 0), .dat true (.int .i64 0), .dat true (.int .u64 0), .dat true (.int .i64 0)])], 86⟩)
    (fun p => p.1 ≤ l.length ∧ chooseS id l = (l.drop p.1).foldl (Ch.step id) p.2) (fun p => l.length - p.1) (0, .start id) ⟨Nat.zero_le _, rfl⟩
    (Wk_g some rfl rfl (by (repeat' (first | exact trivial | rfl | exact listLe_map _ | exact ⟨_, rfl, .inl rfl⟩ | exact ⟨_, rfl, .inr (.inl rfl)⟩ | exact ⟨_, rfl, .inr (.inr rfl)⟩ | refine ⟨_, _, rfl, rfl, ?_⟩ | exact ⟨_, rfl, rfl⟩ | exact ⟨_, _, _, _, rfl, rfl, rfl⟩ | exact ⟨_, rfl⟩ | exact ⟨_, _, rfl⟩ | apply And.intro)))) (fun p hR => ?_)
  obtain ⟨k, c⟩ := p
  obtain ⟨hk, hch⟩ := hR
  simp only at hk hch
  dsimp only
  by_cases hlt : k < l.length
  · have hx : (l.map Offer.cells)[(k : Int).toNat]? = some (l[k]).cells := by simp [hlt]
    rw [List.drop_eq_getElem_cons hlt, List.foldl_cons] at hch
    generalize l[k] = o at hx hch
    by_cases hel : o.good id
    · have hE := Offer.good_true hel
      obtain ⟨i0, i1, i2, i3, i4⟩ := hel
      have hst := Ch.step_in (c := c) i0 i1 i2 i3 i4
      by_cases hp : c.port < 0
      · rw [if_pos (.inl hp)] at hst
        repeat' (first
    | (apply DW_false rfl; case hb => exact hE)
    | (apply Stp.go; case a => constructor)
    | refine blk_hit rfl ?_ | refine blk_miss rfl ?_ | refine dnilD (by kernel_rfl) ?_ | refine DW_cond_t rfl ?_ | refine DW_cond_f rfl ?_
    | refine dpOff rfl rfl ?_
    | ((first | apply dX rfl | apply dXon rfl rfl | apply dpMay rfl rfl (by intro h; first | trivial | exact ⟨h, trivial⟩ | exact ⟨h, h, trivial⟩ | exact ⟨h, h, h, trivial⟩)); (case h => ((try intro hg); first | exact as_bool (S_lss rfl rfl) (decide_eq_true (by omega : (k : Int) < ((l.map Offer.cells).length : Int))) | exact S_ix_slice rfl rfl (by omega) hx rfl | exact S_call (vec_Over o.vec o.cost) rfl | exact S_call (vec_Compare ((o.vec.over o.cost).getD .zero) c.best) rfl | exact as_bool (S_lss rfl rfl) (decide_eq_true hp) | exact as_bool (b := true) (S_lss rfl rfl) rfl | exact S_al rfl | exact S_bx rfl rfl | exact S_store rfl rfl rfl rfl rfl rfl | (apply Pu.ok; repeat' (first | rfl | exact .inK (by simp only [InK]; omega) | exact .inK (by simp only [InK]; simp at hg; omega) | exact .wr | constructor | decide | omega)))); (try case hp => constructor))
    | refine dpickAnd rfl rfl rfl rfl rfl ?_ | refine dpickOr rfl rfl rfl rfl rfl ?_
    | fail)
        exact loop_again (k + 1, ⟨(o.vec.over o.cost).getD .zero, o.age + 1, o.port⟩) ⟨hlt, by rw [hch, hst]⟩ (by simp only; omega) (Wk_g some rfl rfl (by (repeat' (first | exact trivial | rfl | exact listLe_map _ | exact ⟨_, rfl, .inl rfl⟩ | exact ⟨_, rfl, .inr (.inl rfl)⟩ | exact ⟨_, rfl, .inr (.inr rfl)⟩ | refine ⟨_, _, rfl, rfl, ?_⟩ | exact ⟨_, rfl, rfl⟩ | exact ⟨_, _, _, _, rfl, rfl, rfl⟩ | exact ⟨_, rfl⟩ | exact ⟨_, _, rfl⟩ | apply And.intro))))
      · by_cases ht : ((o.vec.over o.cost).getD .zero).cmp c.best < 0 ∨ (((o.vec.over o.cost).getD .zero).cmp c.best = 0 ∧ o.port < c.port)
        · rw [if_pos (.inr ht)] at hst
          have hT : (decide (((o.vec.over o.cost).getD .zero).cmp c.best < 0) || (decide (((o.vec.over o.cost).getD .zero).cmp c.best = 0) && decide (o.port < c.port))) = true := by simpa using ht
          repeat' (first
    | (apply DW_false rfl; case hb => exact hE)
    | (apply DW_true rfl; case hb => exact hT)
    | (apply Stp.go; case a => constructor)
    | refine blk_hit rfl ?_ | refine blk_miss rfl ?_ | refine dnilD (by kernel_rfl) ?_ | refine DW_cond_t rfl ?_ | refine DW_cond_f rfl ?_
    | refine dpOff rfl rfl ?_
    | ((first | apply dX rfl | apply dXon rfl rfl | apply dpMay rfl rfl (by intro h; first | trivial | exact ⟨h, trivial⟩ | exact ⟨h, h, trivial⟩ | exact ⟨h, h, h, trivial⟩)); (case h => ((try intro hg); first | exact as_bool (S_lss rfl rfl) (decide_eq_true (by omega : (k : Int) < ((l.map Offer.cells).length : Int))) | exact S_ix_slice rfl rfl (by omega) hx rfl | exact S_call (vec_Over o.vec o.cost) rfl | exact S_call (vec_Compare ((o.vec.over o.cost).getD .zero) c.best) rfl | exact as_bool (S_lss rfl rfl) (decide_eq_false hp) | exact S_al rfl | exact S_bx rfl rfl | exact S_store rfl rfl rfl rfl rfl rfl | (apply Pu.ok; repeat' (first | rfl | exact .inK (by simp only [InK]; omega) | exact .inK (by simp only [InK]; simp at hg; omega) | exact .wr | constructor | decide | omega)))); (try case hp => constructor))
    | refine dpickAnd rfl rfl rfl rfl rfl ?_ | refine dpickOr rfl rfl rfl rfl rfl ?_
    | fail)
          exact loop_again (k + 1, ⟨(o.vec.over o.cost).getD .zero, o.age + 1, o.port⟩) ⟨hlt, by rw [hch, hst]⟩ (by simp only; omega) (Wk_g some rfl rfl (by (repeat' (first | exact trivial | rfl | exact listLe_map _ | exact ⟨_, rfl, .inl rfl⟩ | exact ⟨_, rfl, .inr (.inl rfl)⟩ | exact ⟨_, rfl, .inr (.inr rfl)⟩ | refine ⟨_, _, rfl, rfl, ?_⟩ | exact ⟨_, rfl, rfl⟩ | exact ⟨_, _, _, _, rfl, rfl, rfl⟩ | exact ⟨_, rfl⟩ | exact ⟨_, _, rfl⟩ | apply And.intro))))
        · rw [if_neg (by omega)] at hst
          have hT : (decide (((o.vec.over o.cost).getD .zero).cmp c.best < 0) || (decide (((o.vec.over o.cost).getD .zero).cmp c.best = 0) && decide (o.port < c.port))) = false := by
            rw [Bool.or_eq_false_iff, Bool.and_eq_false_iff, decide_eq_false_iff_not, decide_eq_false_iff_not, decide_eq_false_iff_not]; omega
          repeat' (first
    | (apply DW_false rfl; case hb => exact hE)
    | (apply DW_false rfl; case hb => exact hT)
    | (apply Stp.go; case a => constructor)
    | refine blk_hit rfl ?_ | refine blk_miss rfl ?_ | refine dnilD (by kernel_rfl) ?_ | refine DW_cond_t rfl ?_ | refine DW_cond_f rfl ?_
    | refine dpOff rfl rfl ?_
    | ((first | apply dX rfl | apply dXon rfl rfl | apply dpMay rfl rfl (by intro h; first | trivial | exact ⟨h, trivial⟩ | exact ⟨h, h, trivial⟩ | exact ⟨h, h, h, trivial⟩)); (case h => ((try intro hg); first | exact as_bool (S_lss rfl rfl) (decide_eq_true (by omega : (k : Int) < ((l.map Offer.cells).length : Int))) | exact S_ix_slice rfl rfl (by omega) hx rfl | exact S_call (vec_Over o.vec o.cost) rfl | exact S_call (vec_Compare ((o.vec.over o.cost).getD .zero) c.best) rfl | exact as_bool (S_lss rfl rfl) (decide_eq_false hp) | exact S_al rfl | exact S_bx rfl rfl | exact S_store rfl rfl rfl rfl rfl rfl | (apply Pu.ok; repeat' (first | rfl | exact .inK (by simp only [InK]; omega) | exact .inK (by simp only [InK]; simp at hg; omega) | exact .wr | constructor | decide | omega)))); (try case hp => constructor))
    | refine dpickAnd rfl rfl rfl rfl rfl ?_ | refine dpickOr rfl rfl rfl rfl rfl ?_
    | fail)
          exact loop_again (k + 1, c) ⟨hlt, by rw [hch, hst]⟩ (by simp only; omega) (Wk_g some rfl rfl (by (repeat' (first | exact trivial | rfl | exact listLe_map _ | exact ⟨_, rfl, .inl rfl⟩ | exact ⟨_, rfl, .inr (.inl rfl)⟩ | exact ⟨_, rfl, .inr (.inr rfl)⟩ | refine ⟨_, _, rfl, rfl, ?_⟩ | exact ⟨_, rfl, rfl⟩ | exact ⟨_, _, _, _, rfl, rfl, rfl⟩ | exact ⟨_, rfl⟩ | exact ⟨_, _, rfl⟩ | apply And.intro))))
    · have hE := Offer.good_false hel
      repeat' (first
    | (apply DW_true rfl; case hb => exact hE)
    | (apply Stp.go; case a => constructor)
    | refine blk_hit rfl ?_ | refine blk_miss rfl ?_ | refine dnilD (by kernel_rfl) ?_ | refine DW_cond_t rfl ?_ | refine DW_cond_f rfl ?_
    | refine dpOff rfl rfl ?_
    | ((first | apply dX rfl | apply dXon rfl rfl | apply dpMay rfl rfl (by intro h; first | trivial | exact ⟨h, trivial⟩ | exact ⟨h, h, trivial⟩ | exact ⟨h, h, h, trivial⟩)); (case h => ((try intro hg); first | exact as_bool (S_lss rfl rfl) (decide_eq_true (by omega : (k : Int) < ((l.map Offer.cells).length : Int))) | exact S_ix_slice rfl rfl (by omega) hx rfl | exact S_call (vec_Over o.vec o.cost) rfl | exact S_call (vec_Compare ((o.vec.over o.cost).getD .zero) c.best) rfl | exact S_al rfl | exact S_bx rfl rfl | exact S_store rfl rfl rfl rfl rfl rfl | (apply Pu.ok; repeat' (first | rfl | exact .inK (by simp only [InK]; omega) | exact .inK (by simp only [InK]; simp at hg; omega) | exact .wr | constructor | decide | omega)))); (try case hp => constructor))
    | refine dpickAnd rfl rfl rfl rfl rfl ?_ | refine dpickOr rfl rfl rfl rfl rfl ?_
    | fail)
      exact loop_again (k + 1, c) ⟨hlt, by rw [hch, Ch.step_bad hel]⟩ (by simp only; omega) (Wk_g some rfl rfl (by (repeat' (first | exact trivial | rfl | exact listLe_map _ | exact ⟨_, rfl, .inl rfl⟩ | exact ⟨_, rfl, .inr (.inl rfl)⟩ | exact ⟨_, rfl, .inr (.inr rfl)⟩ | refine ⟨_, _, rfl, rfl, ?_⟩ | exact ⟨_, rfl, rfl⟩ | exact ⟨_, _, _, _, rfl, rfl, rfl⟩ | exact ⟨_, rfl⟩ | exact ⟨_, _, rfl⟩ | apply And.intro))))
  · repeat' (first
    | (apply Stp.go; case a => constructor)
    | refine blk_hit rfl ?_ | refine blk_miss rfl ?_ | refine dnilD (by kernel_rfl) ?_ | refine DW_cond_t rfl ?_ | refine DW_cond_f rfl ?_
    | refine dpOff rfl rfl ?_
    | ((first | apply dX rfl | apply dXon rfl rfl | apply dpMay rfl rfl (by intro h; first | trivial | exact ⟨h, trivial⟩ | exact ⟨h, h, trivial⟩ | exact ⟨h, h, h, trivial⟩)); (case h => ((try intro hg); first | exact as_bool (S_lss rfl rfl) (decide_eq_false (by omega : ¬ (k : Int) < ((l.map Offer.cells).length : Int))) | exact S_al rfl | exact S_bx rfl rfl | exact S_store rfl rfl rfl rfl rfl rfl | (apply Pu.ok; repeat' (first | rfl | exact .inK (by simp only [InK]; omega) | exact .inK (by simp only [InK]; simp at hg; omega) | exact .wr | constructor | decide | omega)))); (try case hp => constructor))
    | refine dpickAnd rfl rfl rfl rfl rfl ?_ | refine dpickOr rfl rfl rfl rfl rfl ?_
    | fail)
    refine retN (.cellA inferInstance rfl rfl rfl rfl (by first | exact .inl rfl | exact .inr (flat_of rfl)) (.tmp rfl (by first | exact .inl rfl | exact .inr (flat_of rfl)) (.tmp rfl (by first | exact .inl rfl | exact .inr (flat_of rfl)) .nil))) ?_
    rw [List.drop_eq_nil_of_le (by omega)] at hch
    rw [hch]; rfl
end Go.Proofs.Ytkppkgahdoglpaa
