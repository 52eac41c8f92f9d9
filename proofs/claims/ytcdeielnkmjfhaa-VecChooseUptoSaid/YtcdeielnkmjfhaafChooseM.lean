/- What vec.Choose chooses: the least of the offers that may be taken. -/
import Derived.Test.YtcdeielnkmjfhaafLaw5
namespace Go.Proofs.Ytcdeielnkmjfhaa

def Offer.elig (id : Int) (o : Offer) (w : Vec) : Prop := o.vec.over o.cost = some w ∧ 0 ≤ o.port ∧ 0 ≤ o.age ∧ o.age < 20 ∧ w.root < id
def Vec.le2 (a : Vec) (p : Int) (b : Vec) (q : Int) : Prop := a.cmp b < 0 ∨ (a.cmp b = 0 ∧ p ≤ q)
theorem Vec.le2_trans {a b c : Vec} {p q r : Int} (h : a.le2 p b q) (k : b.le2 q c r) : a.le2 p c r := by
  unfold Vec.le2 at *
  simp only [Vec.cmp_lt, Vec.cmp_eq] at *
  omega
theorem Vec.le2_refl (a : Vec) (p : Int) : a.le2 p a p := .inr ⟨Vec.cmp_eq.2 ⟨rfl, rfl, rfl, rfl⟩, Int.le_refl _⟩
theorem Vec.le2_antisymm {a b : Vec} {p q : Int} (h : a.le2 p b q) (k : b.le2 q a p) : a.root = b.root ∧ a.cost = b.cost ∧ a.bridge = b.bridge ∧ a.port = b.port ∧ p = q := by
  unfold Vec.le2 at *
  simp only [Vec.cmp_lt, Vec.cmp_eq] at *
  omega
theorem Vec.le2_total (a b : Vec) (p q : Int) : ¬ (a.cmp b < 0 ∨ (a.cmp b = 0 ∧ p < q)) → b.le2 q a p := by
  unfold Vec.le2
  simp only [Vec.cmp_lt, Vec.cmp_eq]
  omega
theorem Vec.le2_of_lt {a b : Vec} {p q : Int} (h : a.cmp b < 0 ∨ (a.cmp b = 0 ∧ p < q)) : a.le2 p b q := by
  unfold Vec.le2
  rcases h with h | h
  · exact .inl h
  · exact .inr ⟨h.1, by omega⟩

structure Ch.Inv (id : Int) (l : List Offer) (c : Ch) : Prop where
  neg : c.port < 0 → c = .start id
  some : 0 ≤ c.port → ∃ o ∈ l, o.elig id c.best ∧ o.port = c.port ∧ c.age = o.age + 1
  min : ∀ o ∈ l, ∀ w, o.elig id w → 0 ≤ c.port ∧ c.best.le2 c.port w o.port

theorem Ch.inv_step {id : Int} {l : List Offer} {c : Ch} {o : Offer} (h : Ch.Inv id l c) : Ch.Inv id (l ++ [o]) (c.step id o) := by
  by_cases he : ∃ w, o.elig id w
  · obtain ⟨w, hw⟩ := he
    have hi := hw.1
    have e : c.step id o = if (c.port < 0 ∨ ((o.vec.over o.cost).getD .zero).cmp c.best < 0 ∨ (((o.vec.over o.cost).getD .zero).cmp c.best = 0 ∧ o.port < c.port)) then ⟨(o.vec.over o.cost).getD .zero, o.age + 1, o.port⟩ else c :=
      Ch.step_in (by rw [hi]; rfl) hw.2.1 hw.2.2.1 hw.2.2.2.1 (by rw [hi]; exact hw.2.2.2.2)
    rw [hi] at e
    simp only [Option.getD_some] at e
    have huniq : ∀ w', o.elig id w' → w' = w := fun w' h' => by
      have := h'.1.symm.trans hw.1
      injection this
    by_cases hc : c.port < 0 ∨ w.cmp c.best < 0 ∨ (w.cmp c.best = 0 ∧ o.port < c.port)
    · rw [e, if_pos hc]
      refine ⟨fun hn => ?_, fun _ => ⟨o, by simp, hw, rfl, rfl⟩, fun o' ho' w' hw' => ⟨hw.2.1, ?_⟩⟩
      · have := hw.2.1; simp only at hn; omega
      · rcases List.mem_append.1 ho' with h1 | h1
        · obtain ⟨k1, k2⟩ := h.min o' h1 w' hw'
          rcases hc with hc | hc
          · omega
          · exact Vec.le2_trans (Vec.le2_of_lt hc) k2
        · simp at h1; subst h1
          rw [huniq w' hw']
          exact Vec.le2_refl _ _
    · rw [e, if_neg hc]
      have hp : 0 ≤ c.port := by omega
      refine ⟨h.neg, fun hp => ?_, fun o' ho' w' hw' => ⟨hp, ?_⟩⟩
      · obtain ⟨o', h1, h2⟩ := h.some hp
        exact ⟨o', by simp [h1], h2⟩
      · rcases List.mem_append.1 ho' with h1 | h1
        · exact (h.min o' h1 w' hw').2
        · simp at h1; subst h1
          rw [huniq w' hw']
          exact Vec.le2_total _ _ _ _ (fun hh => hc (.inr hh))
  · have e : c.step id o = c := Ch.step_skip (fun h0 h1 h2 h3 => by
      obtain ⟨w, hw⟩ := Option.isSome_iff_exists.1 h0
      rw [hw]
      simp only [Option.getD_some]
      by_cases hr : w.root < id
      · exact absurd ⟨w, hw, h1, h2, h3, hr⟩ he
      · omega)
    rw [e]
    refine ⟨h.neg, fun hp => ?_, fun o' ho' w' hw' => ?_⟩
    · obtain ⟨o', h1, h2⟩ := h.some hp
      exact ⟨o', by simp [h1], h2⟩
    · rcases List.mem_append.1 ho' with h1 | h1
      · exact h.min o' h1 w' hw'
      · simp at h1; subst h1
        exact absurd ⟨w', hw'⟩ he
theorem Ch.inv_fold {id : Int} : ∀ (r l : List Offer) (c : Ch), Ch.Inv id l c → Ch.Inv id (l ++ r) (r.foldl (Ch.step id) c)
  | [], l, c, h => by simpa using h
  | o :: r, l, c, h => by
    have := Ch.inv_fold r (l ++ [o]) (c.step id o) (Ch.inv_step h)
    simpa using this
theorem choose_inv (id : Int) (l : List Offer) : Ch.Inv id l (chooseS id l) := by
  have := Ch.inv_fold (id := id) l [] (.start id) ⟨fun _ => rfl, fun h => by simp [Ch.start] at h, fun o h => by simp at h⟩
  simpa [chooseS] using this

theorem choose_same {id : Int} {l r : List Offer} (h : ∀ o, o ∈ l ↔ o ∈ r) : (chooseS id l).best.root = (chooseS id r).best.root ∧ (chooseS id l).best.cost = (chooseS id r).best.cost ∧ (chooseS id l).port = (chooseS id r).port := by
  have i := choose_inv id l
  have j := choose_inv id r
  by_cases hp : 0 ≤ (chooseS id l).port
  · obtain ⟨o, h1, h2, h3, _⟩ := i.some hp
    obtain ⟨q, k⟩ := j.min o ((h o).1 h1) _ h2
    obtain ⟨o', h1', h2', h3', _⟩ := j.some q
    obtain ⟨_, k'⟩ := i.min o' ((h o').2 h1') _ h2'
    rw [h3] at k
    rw [h3'] at k'
    have := Vec.le2_antisymm k k'
    omega
  · by_cases hq : 0 ≤ (chooseS id r).port
    · obtain ⟨o', h1', h2', _⟩ := j.some hq
      exact absurd (i.min o' ((h o').2 h1') _ h2').1 hp
    · rw [i.neg (by omega), j.neg (by omega)]
      exact ⟨rfl, rfl, rfl⟩
end Go.Proofs.Ytcdeielnkmjfhaa
