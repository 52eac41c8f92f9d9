/- Contracts: vec.Choose. -/
import Derived.Test.YtfmaehhloffabaayTy
import Derived.Test.YtfmaehhloffabaaybFz
namespace Go.Proofs.Ytfmaehhloffabaa
open Go.RowKit
attribute [local irreducible] SStep DW DWin DOps thenQ inBlk loopQ retQ retQG FnF FnG Wk
theorem isNaN_u64 (x : Int) : FnF Try.prog 75 [.int .u64 x] (.bool false) := by
  refine fnF_of Try.func75 rfl rfl rfl ?_
  simp only [envOf]
  repeat' (first | (apply Wa; constructor) | refine Wb rfl ?_ | refine Wc rfl ?_ | refine Wd (by kernel_rfl) ?_ | refine We rfl ?_ | refine Wf rfl ?_ | refine Wi rfl rfl ?_ | ((first | apply dX rfl | apply Da rfl rfl | apply Db rfl rfl (by intro h; first | trivial | exact ⟨h, trivial⟩ | exact ⟨h, h, trivial⟩)); (focus ((try intro hg); first | exact S_al rfl | exact S_bx rfl rfl | exact S_store rfl rfl rfl rfl rfl rfl | (apply Pu.ok; repeat' (first | rfl | exact .inK (by simp only [InK]; omega) | exact .wr | constructor | decide | omega)))); constructor) | refine Pa rfl rfl rfl rfl rfl ?_ | refine Po rfl rfl rfl rfl rfl ?_ | fail)
  exact ret1 rfl (.inl rfl) (by simp)
theorem isNaN_int (x : Int) : FnF Try.prog 76 [.int .i64 x] (.bool false) := by
  refine fnF_of Try.func76 rfl rfl rfl ?_
  simp only [envOf]
  repeat' (first | (apply Wa; constructor) | refine Wb rfl ?_ | refine Wc rfl ?_ | refine Wd (by kernel_rfl) ?_ | refine We rfl ?_ | refine Wf rfl ?_ | refine Wi rfl rfl ?_ | ((first | apply dX rfl | apply Da rfl rfl | apply Db rfl rfl (by intro h; first | trivial | exact ⟨h, trivial⟩ | exact ⟨h, h, trivial⟩)); (focus ((try intro hg); first | exact S_al rfl | exact S_bx rfl rfl | exact S_store rfl rfl rfl rfl rfl rfl | (apply Pu.ok; repeat' (first | rfl | exact .inK (by simp only [InK]; omega) | exact .wr | constructor | decide | omega)))); constructor) | refine Pa rfl rfl rfl rfl rfl ?_ | refine Po rfl rfl rfl rfl rfl ?_ | fail)
  exact ret1 rfl (.inl rfl) (by simp)
def cmpI (x y : Int) : Int := if x < y then -1 else if y < x then 1 else 0
theorem cmp_u64 (x y : Int) : FnF Try.prog 58 [.int .u64 x, .int .u64 y] (.int .i64 (cmpI x y)) := by
  refine fnF_of Try.func58 rfl rfl rfl ?_
  simp only [envOf]
  repeat' (first | (apply Wa; constructor) | refine Wb rfl ?_ | refine Wc rfl ?_ | refine Wd (by kernel_rfl) ?_ | refine We rfl ?_ | refine Wf rfl ?_ | refine DW_cond rfl (fun _ => ?_) (fun _ => ?_) | refine Wi rfl rfl ?_ | ((first | apply dX rfl | apply Da rfl rfl | apply Db rfl rfl (by intro h; first | trivial | exact ⟨h, trivial⟩ | exact ⟨h, h, trivial⟩)); (focus ((try intro hg); first | exact S_call (isNaN_u64 _) rfl | exact S_al rfl | exact S_bx rfl rfl | exact S_store rfl rfl rfl rfl rfl rfl | (apply Pu.ok; repeat' (first | rfl | exact .inK (by simp only [InK]; omega) | exact .wr | constructor | decide | omega)))); constructor) | refine Pa rfl rfl rfl rfl rfl ?_ | refine Po rfl rfl rfl rfl rfl ?_ | fail)
  all_goals (refine ret1 rfl (.inl rfl) ?_; simp_all [cmpI]; try omega)
theorem cmp_int (x y : Int) : FnF Try.prog 59 [.int .i64 x, .int .i64 y] (.int .i64 (cmpI x y)) := by
  refine fnF_of Try.func59 rfl rfl rfl ?_
  simp only [envOf]
  repeat' (first | (apply Wa; constructor) | refine Wb rfl ?_ | refine Wc rfl ?_ | refine Wd (by kernel_rfl) ?_ | refine We rfl ?_ | refine Wf rfl ?_ | refine DW_cond rfl (fun _ => ?_) (fun _ => ?_) | refine Wi rfl rfl ?_ | ((first | apply dX rfl | apply Da rfl rfl | apply Db rfl rfl (by intro h; first | trivial | exact ⟨h, trivial⟩ | exact ⟨h, h, trivial⟩)); (focus ((try intro hg); first | exact S_call (isNaN_int _) rfl | exact S_al rfl | exact S_bx rfl rfl | exact S_store rfl rfl rfl rfl rfl rfl | (apply Pu.ok; repeat' (first | rfl | exact .inK (by simp only [InK]; omega) | exact .wr | constructor | decide | omega)))); constructor) | refine Pa rfl rfl rfl rfl rfl ?_ | refine Po rfl rfl rfl rfl rfl ?_ | fail)
  all_goals (refine ret1 rfl (.inl rfl) ?_; simp_all [cmpI]; try omega)
def ints (l : List Int) : List (List V) := l.map fun x => [.int .i64 x]
def orI : List Int → Int
  | [] => 0
  | x :: r => if x = 0 then orI r else x
theorem ints_len (l : List Int) : (ints l).length = l.length := by simp [ints]
theorem orI_drop {l : List Int} {k : Nat} (h : k < l.length) : orI (l.drop k) = if l[k] = 0 then orI (l.drop (k + 1)) else l[k] := by
  rw [List.drop_eq_getElem_cons h]; rfl
theorem cmp_Or (l : List Int) : FnF Try.prog 57 [.slice (ints l)] (.int .i64 (orI l)) := by
  refine fnF_of Try.func57 rfl rfl rfl ?_
  simp only [envOf]
  refine DW_len 0 rfl (fun hlen => ?_)
  rw [ints_len] at hlen
  repeat' (first | (apply Wa; constructor) | refine Wb rfl ?_ | refine Wc rfl ?_ | refine Wd (by kernel_rfl) ?_ | refine We rfl ?_ | refine Wf rfl ?_ | refine Wi rfl rfl ?_ | ((first | apply dX rfl | apply Da rfl rfl | apply Db rfl rfl (by intro h; first | trivial | exact ⟨h, trivial⟩ | exact ⟨h, h, trivial⟩)); (focus ((try intro hg); first | exact S_al rfl | exact S_bx rfl rfl | exact S_store rfl rfl rfl rfl rfl rfl | (apply Pu.ok; repeat' (first | rfl | exact .inK (by simp only [InK]; omega) | exact .wr | constructor | decide | omega)))); constructor) | refine Pa rfl rfl rfl rfl rfl ?_ | refine Po rfl rfl rfl rfl rfl ?_ | fail)
  refine DW_loop (fun k : Nat => ⟨[(3, .dat true (.int .i64 0)), (6, .dat false (.slice (ints l))), (7, .dat true (.int .i64 (ints l).length)), (8, .dat true (.int .i64 k))], [], 18⟩) (fun k => k ≤ l.length ∧ orI l = orI (l.drop k)) (fun k => l.length - k) 0 ⟨Nat.zero_le _, rfl⟩
    (Wk_g some rfl rfl (by (repeat' (first | exact trivial | rfl | exact listLe_map _ | exact ⟨_, rfl, .inl rfl⟩ | exact ⟨_, rfl, .inr (.inl rfl)⟩ | exact ⟨_, rfl, .inr (.inr rfl)⟩ | refine ⟨_, _, rfl, rfl, ?_⟩ | exact ⟨_, rfl, rfl⟩ | exact ⟨_, _, _, _, rfl, rfl, rfl⟩ | exact ⟨_, rfl⟩ | exact ⟨_, _, rfl⟩ | apply And.intro)))) (fun k hR => ?_)
  obtain ⟨hk, hor⟩ := hR
  by_cases hlt : k < l.length
  · have hx : (ints l)[k]? = some [.int .i64 l[k]] := by simp [ints, hlt]
    rw [orI_drop hlt] at hor
    repeat' (first | (apply Wa; constructor) | refine Wb rfl ?_ | refine Wc rfl ?_ | refine Wd (by kernel_rfl) ?_ | refine We rfl ?_ | refine Wf rfl ?_ | refine DW_cond rfl (fun hb => ?_) (fun hb => ?_) | refine Wi rfl rfl ?_ | ((first | apply dX rfl | apply Da rfl rfl | apply Db rfl rfl (by intro h; first | trivial | exact ⟨h, trivial⟩ | exact ⟨h, h, trivial⟩)); (focus ((try intro hg); first | exact S_ix_slice rfl rfl (by omega) hx rfl | exact S_al rfl | exact S_bx rfl rfl | exact S_store rfl rfl rfl rfl rfl rfl | (apply Pu.ok; repeat' (first | rfl | exact .inK (by simp only [InK]; omega) | exact .wr | constructor | decide | omega)))); constructor) | refine Pa rfl rfl rfl rfl rfl ?_ | refine Po rfl rfl rfl rfl rfl ?_ | fail)
    · refine ret1 rfl (.inr (.int _ _)) ?_
      simp at hb
      rw [hor, if_neg hb]
    · simp at hb
      exact loop_again (k + 1) ⟨hlt, by rw [hor, if_pos hb]⟩ (by omega) (Wk_g some rfl rfl (by (repeat' (first | exact trivial | rfl | exact listLe_map _ | exact ⟨_, rfl, .inl rfl⟩ | exact ⟨_, rfl, .inr (.inl rfl)⟩ | exact ⟨_, rfl, .inr (.inr rfl)⟩ | refine ⟨_, _, rfl, rfl, ?_⟩ | exact ⟨_, rfl, rfl⟩ | exact ⟨_, _, _, _, rfl, rfl, rfl⟩ | exact ⟨_, rfl⟩ | exact ⟨_, _, rfl⟩ | apply And.intro))))
    · simp [ints_len] at hb; omega
  · repeat' (first | (apply Wa; constructor) | refine Wb rfl ?_ | refine Wc rfl ?_ | refine Wd (by kernel_rfl) ?_ | refine We rfl ?_ | refine Wf rfl ?_ | refine DW_cond rfl (fun hb => ?_) (fun hb => ?_) | refine Wi rfl rfl ?_ | ((first | apply dX rfl | apply Da rfl rfl | apply Db rfl rfl (by intro h; first | trivial | exact ⟨h, trivial⟩ | exact ⟨h, h, trivial⟩)); (focus ((try intro hg); first | exact S_al rfl | exact S_bx rfl rfl | exact S_store rfl rfl rfl rfl rfl rfl | (apply Pu.ok; repeat' (first | rfl | exact .inK (by simp only [InK]; omega) | exact .wr | constructor | decide | omega)))); constructor) | refine Pa rfl rfl rfl rfl rfl ?_ | refine Po rfl rfl rfl rfl rfl ?_ | fail)
    · simp [ints_len] at hb; omega
    · refine ret1 rfl (.inl rfl) ?_
      rw [hor, List.drop_eq_nil_of_le (by omega)]; rfl
end Go.Proofs.Ytfmaehhloffabaa
namespace Go.Proofs.Ytfmaehhloffabaa
open Go.RowKit
attribute [local irreducible] SStep DW DOps thenQ inBlk loopQ retQ FnF Wk
structure Vec where
  root : Int
  cost : Int
  bridge : Int
  port : Int
def Vec.cells (v : Vec) : List V := [.int .u64 v.root, .int .i64 v.cost, .int .u64 v.bridge, .int .i64 v.port]
def Vec.v (v : Vec) : V := .agg v.cells
def Vec.cmp (a b : Vec) : Int := orI [cmpI a.root b.root, cmpI a.cost b.cost, cmpI a.bridge b.bridge, cmpI a.port b.port]
theorem vec_Compare (a b : Vec) : FnF Try.prog 39 [a.v, b.v] (.int .i64 (a.cmp b)) := by
  refine fnF_of Try.func39 rfl rfl rfl ?_
  simp only [envOf]
  repeat' (first | (apply Wa; constructor) | refine Wb rfl ?_ | refine Wc rfl ?_ | refine Wd (by kernel_rfl) ?_ | refine We rfl ?_ | refine Wf rfl ?_ | refine Wi rfl rfl ?_ | ((first | apply dX rfl | apply Da rfl rfl | apply Db rfl rfl (by intro h; first | trivial | exact ⟨h, trivial⟩ | exact ⟨h, h, trivial⟩)); (focus ((try intro hg); first | exact S_call (cmp_u64 _ _) rfl | exact S_call (cmp_int _ _) rfl | exact S_call (cmp_Or [_, _, _, _]) rfl | exact S_al rfl | exact S_bx rfl rfl | exact S_store rfl rfl rfl rfl rfl rfl | (apply Pu.ok; repeat' (first | rfl | exact .inK (by simp only [InK]; omega) | exact .inK (by simp only [InK]; simp at hg; omega) | exact .wr | constructor | decide | omega)))); constructor) | refine Pa rfl rfl rfl rfl rfl ?_ | refine Po rfl rfl rfl rfl rfl ?_ | fail)
  exact ret1 rfl (.inl rfl) rfl
def maxCost : Int := 1000000000
def Vec.over (v : Vec) (cost : Int) : Option Vec := if cost < 0 ∨ maxCost < cost ∨ v.cost < 0 ∨ maxCost - cost < v.cost then none else some { v with cost := v.cost + cost }
def Vec.zero : Vec := ⟨0, 0, 0, 0⟩
theorem vec_Over (v : Vec) (cost : Int) : FnF Try.prog 38 [v.v, .int .i64 cost] (.tuple [((v.over cost).getD .zero).v, .bool (v.over cost).isSome]) := by
  refine fnF_of Try.func38 rfl rfl rfl ?_
  simp only [envOf]
  repeat' (first | (apply Wa; constructor) | refine Wb rfl ?_ | refine Wc rfl ?_ | refine Wd (by kernel_rfl) ?_ | refine We rfl ?_ | refine Wf rfl ?_ | refine DW_cond rfl (fun hb => ?_) (fun hb => ?_) | refine Wi rfl rfl ?_ | ((first | apply dX rfl | apply Da rfl rfl | apply Db rfl rfl (by intro h; first | trivial | exact ⟨h, trivial⟩ | exact ⟨h, h, trivial⟩)); (focus ((try intro hg); first | exact S_al rfl | exact S_bx rfl rfl | exact S_store rfl rfl rfl rfl rfl rfl | (apply Pu.ok; repeat' (first | rfl | exact .inK (by simp only [InK]; omega) | exact .inK (by simp only [InK]; simp at hg; omega) | exact .wr | constructor | decide | omega)))); constructor) | refine Pa rfl rfl rfl rfl rfl ?_ | refine Po rfl rfl rfl rfl rfl ?_ | fail)
  · refine retN (.cellA inferInstance rfl rfl rfl rfl (by first | exact .inl rfl | exact .inr (flat_of rfl)) (.tmp rfl (by first | exact .inl rfl | exact .inr (flat_of rfl)) .nil)) ?_
    have hn : v.over cost = none := by
      unfold Vec.over maxCost
      rw [if_pos]
      simp at hb; omega
    rw [hn]; rfl
  · refine retN (.cellA inferInstance rfl rfl rfl rfl (by first | exact .inl rfl | exact .inr (flat_of rfl)) (.tmp rfl (by first | exact .inl rfl | exact .inr (flat_of rfl)) .nil)) ?_
    simp at hb
    have hn : v.over cost = some { v with cost := v.cost + cost } := by
      unfold Vec.over maxCost
      rw [if_neg]
      omega
    rw [hn, wrap_in (by simp only [InK]; omega)]; rfl
end Go.Proofs.Ytfmaehhloffabaa
namespace Go.Proofs.Ytfmaehhloffabaa
open Go.RowKit
theorem Vec.ext4 {a b : Vec} (h1 : a.root = b.root) (h2 : a.cost = b.cost) (h3 : a.bridge = b.bridge) (h4 : a.port = b.port) : a = b := by
  cases a; cases b; simp_all
theorem Vec.cmp_neg {a b : Vec} : a.cmp b < 0 ↔ a.root < b.root ∨ (a.root = b.root ∧ (a.cost < b.cost ∨ (a.cost = b.cost ∧ (a.bridge < b.bridge ∨ (a.bridge = b.bridge ∧ a.port < b.port))))) := by
  unfold Vec.cmp
  simp only [orI, cmpI]
  repeat' split
  all_goals (first | omega | (constructor <;> intro h <;> omega))
end Go.Proofs.Ytfmaehhloffabaa
namespace Go.Proofs.Ytfmaehhloffabaa
open Go.RowKit
structure Offer where
  port : Int
  cost : Int
  age : Int
  vec : Vec
def Offer.cells (o : Offer) : List V := [.int .i64 o.port, .int .i64 o.cost, .int .i64 o.age, .int .u64 o.vec.root, .int .i64 o.vec.cost, .int .u64 o.vec.bridge, .int .i64 o.vec.port]
def offers (l : List Offer) : V := .slice (l.map Offer.cells)
structure Ch where
  best : Vec
  age : Int
  port : Int
def Ch.step (id : Int) (s : Ch) (o : Offer) : Ch :=
  match o.vec.over o.cost with
  | none => s
  | some v => if o.port < 0 ∨ o.age < 0 ∨ 20 ≤ o.age ∨ id ≤ v.root then s
    else if (if s.port < 0 then -1 else v.cmp s.best) < 0 ∨ ((if s.port < 0 then -1 else v.cmp s.best) = 0 ∧ o.port < s.port) then ⟨v, o.age + 1, o.port⟩ else s
def Ch.start (id : Int) : Ch := ⟨⟨id, 0, 0, 0⟩, 0, -1⟩
def chooseS (id : Int) (l : List Offer) : Ch := l.foldl (Ch.step id) (.start id)
def Ch.says (id : Int) (s : Ch) : Vec := ⟨s.best.root, s.best.cost, id, 0⟩
theorem Ch.step_skip {id : Int} {c : Ch} {o : Offer} (h : (o.vec.over o.cost).isSome = true → 0 ≤ o.port → 0 ≤ o.age → o.age < 20 → id ≤ ((o.vec.over o.cost).getD .zero).root) : c.step id o = c := by
  unfold Ch.step
  cases hv : o.vec.over o.cost with
  | none => rfl
  | some v =>
    simp only [hv, Option.isSome_some, Option.getD_some, true_implies] at h
    simp only
    rw [if_pos]
    omega
theorem Ch.step_in {id : Int} {c : Ch} {o : Offer} (h0 : (o.vec.over o.cost).isSome = true) (h1 : 0 ≤ o.port) (h2 : 0 ≤ o.age) (h3 : o.age < 20) (h4 : ((o.vec.over o.cost).getD .zero).root < id) :
    c.step id o = if (c.port < 0 ∨ ((o.vec.over o.cost).getD .zero).cmp c.best < 0 ∨ (((o.vec.over o.cost).getD .zero).cmp c.best = 0 ∧ o.port < c.port)) then ⟨(o.vec.over o.cost).getD .zero, o.age + 1, o.port⟩ else c := by
  unfold Ch.step
  cases hv : o.vec.over o.cost with
  | none => simp [hv] at h0
  | some v =>
    simp only [hv, Option.getD_some] at h4 ⊢
    rw [if_neg (by omega)]
    by_cases hp : c.port < 0
    · simp [hp]
    · simp [hp]
def Offer.good (id : Int) (o : Offer) : Prop := (o.vec.over o.cost).isSome = true ∧ 0 ≤ o.port ∧ 0 ≤ o.age ∧ o.age < 20 ∧ ((o.vec.over o.cost).getD .zero).root < id
theorem Offer.good_true {id : Int} {o : Offer} (h : o.good id) : ((((!(o.vec.over o.cost).isSome) || decide (o.port < 0)) || decide (o.age < 0)) || decide (20 ≤ o.age) || decide (id ≤ ((o.vec.over o.cost).getD .zero).root)) = false := by
  obtain ⟨h0, h1, h2, h3, h4⟩ := h
  rw [h0, decide_eq_false (by omega), decide_eq_false (by omega), decide_eq_false (by omega), decide_eq_false (by omega)]; rfl
theorem Offer.good_false {id : Int} {o : Offer} (h : ¬ o.good id) : ((((!(o.vec.over o.cost).isSome) || decide (o.port < 0)) || decide (o.age < 0)) || decide (20 ≤ o.age) || decide (id ≤ ((o.vec.over o.cost).getD .zero).root)) = true := by
  cases hs : ((((!(o.vec.over o.cost).isSome) || decide (o.port < 0)) || decide (o.age < 0)) || decide (20 ≤ o.age) || decide (id ≤ ((o.vec.over o.cost).getD .zero).root)) with
  | true => rfl
  | false =>
    simp only [Bool.or_eq_false_iff, Bool.not_eq_false', decide_eq_false_iff_not] at hs
    exact absurd ⟨hs.1.1.1.1, by omega, by omega, by omega, by omega⟩ h
theorem Ch.step_bad {id : Int} {c : Ch} {o : Offer} (h : ¬ o.good id) : c.step id o = c := Ch.step_skip (fun h0 h1 h2 h3 => by
  by_cases h4 : ((o.vec.over o.cost).getD .zero).root < id
  · exact absurd ⟨h0, h1, h2, h3, h4⟩ h
  · omega)
attribute [local irreducible] SStep DW DWin DOps thenQ inBlk loopQ retQ retQG FnF FnG Wk IntKind.wrap IntKind.andI IntKind.orI IntKind.xorI IntKind.andNotI IntKind.shlI IntKind.shrI Vec.cmp Ch.step
set_option maxHeartbeats 2000000 in
theorem vec_Choose (id : Int) (l : List Offer) : FnF Try.prog 21 [.int .u64 id, offers l] (.tuple [((chooseS id l).says id).v, .int .i64 (chooseS id l).age, .int .i64 (chooseS id l).port]) := by
  refine fnF_of Try.func21 rfl rfl rfl ?_
  simp only [envOf, offers]
  refine DW_len 1 rfl (fun hlen => ?_)
  have hml : (l.map Offer.cells).length = l.length := by simp
  repeat' (first | (apply Wa; constructor) | refine Wb rfl ?_ | refine Wc rfl ?_ | refine Wd (by kernel_rfl) ?_ | refine We rfl ?_ | refine Wf rfl ?_ | refine Wi rfl rfl ?_ | ((first | apply dX rfl | apply Da rfl rfl | apply Db rfl rfl (by intro h; first | trivial | exact ⟨h, trivial⟩ | exact ⟨h, h, trivial⟩)); (focus ((try intro hg); first | exact S_al rfl | exact S_bx rfl rfl | exact S_store rfl rfl rfl rfl rfl rfl | (apply Pu.ok; repeat' (first | rfl | exact .inK (by simp only [InK]; omega) | exact .wr | constructor | decide | omega)))); constructor) | refine Pa rfl rfl rfl rfl rfl ?_ | refine Po rfl rfl rfl rfl rfl ?_ | fail)
  refine DW_loop (fun p : Nat × Ch => ⟨[(0, .dat false (.int .u64 id)), (4, .ptr 4 0), (7, .ptr 7 0), (8, .dat true (.int .i64 p.2.age)), (9, .dat true (.int .i64 p.2.port)), (17, .dat false (.slice (l.map Offer.cells))),
      (18, .dat true (.int .i64 (l.map Offer.cells).length)), (19, .dat true (.int .i64 p.1))],
      [(7, .cells false true [.dat true (.int .u64 p.2.best.root), .dat true (.int .i64 p.2.best.cost), .dat true (.int .u64 p.2.best.bridge), .dat true (.int .i64 p.2.best.port)]),
       (4, .cells false true [.dat true (.int .u64 0), .dat true (.int .i64 0), .dat true (.int .u64 0), .dat true (.int .i64 0)])], 86⟩)
    (fun p => p.1 ≤ l.length ∧ chooseS id l = (l.drop p.1).foldl (Ch.step id) p.2) (fun p => l.length - p.1) (0, .start id) ⟨Nat.zero_le _, rfl⟩
    (Wk_g some rfl rfl (by (repeat' (first | exact trivial | rfl | exact listLe_map _ | exact ⟨_, rfl, .inl rfl⟩ | exact ⟨_, rfl, .inr (.inl rfl)⟩ | exact ⟨_, rfl, .inr (.inr rfl)⟩ | refine ⟨_, _, rfl, rfl, ?_⟩ | exact ⟨_, rfl, rfl⟩ | exact ⟨_, _, _, _, rfl, rfl, rfl⟩ | exact ⟨_, rfl⟩ | exact ⟨_, _, rfl⟩ | apply And.intro)))) (fun p hR => ?_)
  obtain ⟨k, c⟩ := p
  obtain ⟨hk, hch⟩ := hR
  simp only at hk hch
  dsimp only
  by_cases hlt : k < l.length
  · have hx : (l.map Offer.cells)[(k : Int).toNat]? = some (l[k]).cells := by simp [hlt]
    rw [List.drop_eq_getElem_cons hlt, List.foldl_cons] at hch
    generalize l[k] = o at hx hch
    by_cases hel : o.good id
    · have hE := Offer.good_true hel
      obtain ⟨i0, i1, i2, i3, i4⟩ := hel
      have hst := Ch.step_in (c := c) i0 i1 i2 i3 i4
      by_cases hp : c.port < 0
      · rw [if_pos (.inl hp)] at hst
        repeat' (first | (apply DW_false rfl; case hb => exact hE) | (apply Wa; constructor) | refine Wb rfl ?_ | refine Wc rfl ?_ | refine Wd (by kernel_rfl) ?_ | refine We rfl ?_ | refine Wf rfl ?_ | refine Wi rfl rfl ?_ | ((first | apply dX rfl | apply Da rfl rfl | apply Db rfl rfl (by intro h; first | trivial | exact ⟨h, trivial⟩ | exact ⟨h, h, trivial⟩)); (focus ((try intro hg); first | exact as_bool (S_lss rfl rfl) (decide_eq_true (by omega : (k : Int) < ((l.map Offer.cells).length : Int))) | exact S_ix_slice rfl rfl (by omega) hx rfl | exact S_call (vec_Over o.vec o.cost) rfl | exact S_call (vec_Compare ((o.vec.over o.cost).getD .zero) c.best) rfl | exact as_bool (S_lss rfl rfl) (decide_eq_true hp) | exact as_bool (b := true) (S_lss rfl rfl) rfl | exact S_al rfl | exact S_bx rfl rfl | exact S_store rfl rfl rfl rfl rfl rfl | (apply Pu.ok; repeat' (first | rfl | exact .inK (by simp only [InK]; omega) | exact .wr | constructor | decide | omega)))); constructor) | refine Pa rfl rfl rfl rfl rfl ?_ | refine Po rfl rfl rfl rfl rfl ?_ | fail)
        exact loop_again (k + 1, ⟨(o.vec.over o.cost).getD .zero, o.age + 1, o.port⟩) ⟨hlt, by rw [hch, hst]⟩ (by simp only; omega) (Wk_g some rfl rfl (by (repeat' (first | exact trivial | rfl | exact listLe_map _ | exact ⟨_, rfl, .inl rfl⟩ | exact ⟨_, rfl, .inr (.inl rfl)⟩ | exact ⟨_, rfl, .inr (.inr rfl)⟩ | refine ⟨_, _, rfl, rfl, ?_⟩ | exact ⟨_, rfl, rfl⟩ | exact ⟨_, _, _, _, rfl, rfl, rfl⟩ | exact ⟨_, rfl⟩ | exact ⟨_, _, rfl⟩ | apply And.intro))))
      · by_cases ht : ((o.vec.over o.cost).getD .zero).cmp c.best < 0 ∨ (((o.vec.over o.cost).getD .zero).cmp c.best = 0 ∧ o.port < c.port)
        · rw [if_pos (.inr ht)] at hst
          have hT : (decide (((o.vec.over o.cost).getD .zero).cmp c.best < 0) || (decide (((o.vec.over o.cost).getD .zero).cmp c.best = 0) && decide (o.port < c.port))) = true := by simpa using ht
          repeat' (first | (apply DW_false rfl; case hb => exact hE) | (apply DW_true rfl; case hb => exact hT) | (apply Wa; constructor) | refine Wb rfl ?_ | refine Wc rfl ?_ | refine Wd (by kernel_rfl) ?_ | refine We rfl ?_ | refine Wf rfl ?_ | refine Wi rfl rfl ?_ | ((first | apply dX rfl | apply Da rfl rfl | apply Db rfl rfl (by intro h; first | trivial | exact ⟨h, trivial⟩ | exact ⟨h, h, trivial⟩)); (focus ((try intro hg); first | exact as_bool (S_lss rfl rfl) (decide_eq_true (by omega : (k : Int) < ((l.map Offer.cells).length : Int))) | exact S_ix_slice rfl rfl (by omega) hx rfl | exact S_call (vec_Over o.vec o.cost) rfl | exact S_call (vec_Compare ((o.vec.over o.cost).getD .zero) c.best) rfl | exact as_bool (S_lss rfl rfl) (decide_eq_false hp) | exact S_al rfl | exact S_bx rfl rfl | exact S_store rfl rfl rfl rfl rfl rfl | (apply Pu.ok; repeat' (first | rfl | exact .inK (by simp only [InK]; omega) | exact .wr | constructor | decide | omega)))); constructor) | refine Pa rfl rfl rfl rfl rfl ?_ | refine Po rfl rfl rfl rfl rfl ?_ | fail)
          exact loop_again (k + 1, ⟨(o.vec.over o.cost).getD .zero, o.age + 1, o.port⟩) ⟨hlt, by rw [hch, hst]⟩ (by simp only; omega) (Wk_g some rfl rfl (by (repeat' (first | exact trivial | rfl | exact listLe_map _ | exact ⟨_, rfl, .inl rfl⟩ | exact ⟨_, rfl, .inr (.inl rfl)⟩ | exact ⟨_, rfl, .inr (.inr rfl)⟩ | refine ⟨_, _, rfl, rfl, ?_⟩ | exact ⟨_, rfl, rfl⟩ | exact ⟨_, _, _, _, rfl, rfl, rfl⟩ | exact ⟨_, rfl⟩ | exact ⟨_, _, rfl⟩ | apply And.intro))))
        · rw [if_neg (by omega)] at hst
          have hT : (decide (((o.vec.over o.cost).getD .zero).cmp c.best < 0) || (decide (((o.vec.over o.cost).getD .zero).cmp c.best = 0) && decide (o.port < c.port))) = false := by
            rw [Bool.or_eq_false_iff, Bool.and_eq_false_iff, decide_eq_false_iff_not, decide_eq_false_iff_not, decide_eq_false_iff_not]; omega
          repeat' (first | (apply DW_false rfl; case hb => exact hE) | (apply DW_false rfl; case hb => exact hT) | (apply Wa; constructor) | refine Wb rfl ?_ | refine Wc rfl ?_ | refine Wd (by kernel_rfl) ?_ | refine We rfl ?_ | refine Wf rfl ?_ | refine Wi rfl rfl ?_ | ((first | apply dX rfl | apply Da rfl rfl | apply Db rfl rfl (by intro h; first | trivial | exact ⟨h, trivial⟩ | exact ⟨h, h, trivial⟩)); (focus ((try intro hg); first | exact as_bool (S_lss rfl rfl) (decide_eq_true (by omega : (k : Int) < ((l.map Offer.cells).length : Int))) | exact S_ix_slice rfl rfl (by omega) hx rfl | exact S_call (vec_Over o.vec o.cost) rfl | exact S_call (vec_Compare ((o.vec.over o.cost).getD .zero) c.best) rfl | exact as_bool (S_lss rfl rfl) (decide_eq_false hp) | exact S_al rfl | exact S_bx rfl rfl | exact S_store rfl rfl rfl rfl rfl rfl | (apply Pu.ok; repeat' (first | rfl | exact .inK (by simp only [InK]; omega) | exact .wr | constructor | decide | omega)))); constructor) | refine Pa rfl rfl rfl rfl rfl ?_ | refine Po rfl rfl rfl rfl rfl ?_ | fail)
          exact loop_again (k + 1, c) ⟨hlt, by rw [hch, hst]⟩ (by simp only; omega) (Wk_g some rfl rfl (by (repeat' (first | exact trivial | rfl | exact listLe_map _ | exact ⟨_, rfl, .inl rfl⟩ | exact ⟨_, rfl, .inr (.inl rfl)⟩ | exact ⟨_, rfl, .inr (.inr rfl)⟩ | refine ⟨_, _, rfl, rfl, ?_⟩ | exact ⟨_, rfl, rfl⟩ | exact ⟨_, _, _, _, rfl, rfl, rfl⟩ | exact ⟨_, rfl⟩ | exact ⟨_, _, rfl⟩ | apply And.intro))))
    · have hE := Offer.good_false hel
      repeat' (first | (apply DW_true rfl; case hb => exact hE) | (apply Wa; constructor) | refine Wb rfl ?_ | refine Wc rfl ?_ | refine Wd (by kernel_rfl) ?_ | refine We rfl ?_ | refine Wf rfl ?_ | refine Wi rfl rfl ?_ | ((first | apply dX rfl | apply Da rfl rfl | apply Db rfl rfl (by intro h; first | trivial | exact ⟨h, trivial⟩ | exact ⟨h, h, trivial⟩)); (focus ((try intro hg); first | exact as_bool (S_lss rfl rfl) (decide_eq_true (by omega : (k : Int) < ((l.map Offer.cells).length : Int))) | exact S_ix_slice rfl rfl (by omega) hx rfl | exact S_call (vec_Over o.vec o.cost) rfl | exact S_call (vec_Compare ((o.vec.over o.cost).getD .zero) c.best) rfl | exact S_al rfl | exact S_bx rfl rfl | exact S_store rfl rfl rfl rfl rfl rfl | (apply Pu.ok; repeat' (first | rfl | exact .inK (by simp only [InK]; omega) | exact .wr | constructor | decide | omega)))); constructor) | refine Pa rfl rfl rfl rfl rfl ?_ | refine Po rfl rfl rfl rfl rfl ?_ | fail)
      exact loop_again (k + 1, c) ⟨hlt, by rw [hch, Ch.step_bad hel]⟩ (by simp only; omega) (Wk_g some rfl rfl (by (repeat' (first | exact trivial | rfl | exact listLe_map _ | exact ⟨_, rfl, .inl rfl⟩ | exact ⟨_, rfl, .inr (.inl rfl)⟩ | exact ⟨_, rfl, .inr (.inr rfl)⟩ | refine ⟨_, _, rfl, rfl, ?_⟩ | exact ⟨_, rfl, rfl⟩ | exact ⟨_, _, _, _, rfl, rfl, rfl⟩ | exact ⟨_, rfl⟩ | exact ⟨_, _, rfl⟩ | apply And.intro))))
  · repeat' (first | (apply Wa; constructor) | refine Wb rfl ?_ | refine Wc rfl ?_ | refine Wd (by kernel_rfl) ?_ | refine We rfl ?_ | refine Wf rfl ?_ | refine Wi rfl rfl ?_ | ((first | apply dX rfl | apply Da rfl rfl | apply Db rfl rfl (by intro h; first | trivial | exact ⟨h, trivial⟩ | exact ⟨h, h, trivial⟩)); (focus ((try intro hg); first | exact as_bool (S_lss rfl rfl) (decide_eq_false (by omega : ¬ (k : Int) < ((l.map Offer.cells).length : Int))) | exact S_al rfl | exact S_bx rfl rfl | exact S_store rfl rfl rfl rfl rfl rfl | (apply Pu.ok; repeat' (first | rfl | exact .inK (by simp only [InK]; omega) | exact .wr | constructor | decide | omega)))); constructor) | refine Pa rfl rfl rfl rfl rfl ?_ | refine Po rfl rfl rfl rfl rfl ?_ | fail)
    refine retN (.cellA inferInstance rfl rfl rfl rfl (by first | exact .inl rfl | exact .inr (flat_of rfl)) (.tmp rfl (by first | exact .inl rfl | exact .inr (flat_of rfl)) (.tmp rfl (by first | exact .inl rfl | exact .inr (flat_of rfl)) .nil))) ?_
    rw [List.drop_eq_nil_of_le (by omega)] at hch
    rw [hch]; rfl
end Go.Proofs.Ytfmaehhloffabaa
