/- Regions that draw, with a look into a map that may come behind the entry it does not find. -/
import Derived.Test.Ytkppkgahdoglpaav9Draw
namespace Go.Proofs.Ytkppkgahdoglpaa
open Go.RowKit
theorem run_places2 {P : Program} {ops : Array Oper} : ∀ (l l2 : List Oper) (s : St) (tr : List (List Nat × List Nat)) (s1 : St) (tr2 : List (List Nat × List Nat)) (s' : St), DRun P ops l s tr s1 → DRun P ops l2 s1 tr2 s' →
    ∃ f : Nat → Done, (tr ++ tr2).length = (l ++ l2).length ∧ s' = upTo (l ++ l2) f s (fun _ => true) (l ++ l2).length ∧ s1 = upTo (l ++ l2) f s (fun _ => true) l.length ∧ ∀ (i : Nat) o, (l ++ l2)[i]? = some o →
      (tr ++ tr2)[i]? = some ((f i).rd, (f i).wr.map (·.1)) ∧ dOK s o.dst = true ∧ GStep P ops o (upTo (l ++ l2) f s (fun _ => true) i) (f i).rd (f i).val (f i).wr
  | [], l2, s, tr, s1, tr2, s', ⟨h1, h2⟩, hr => by
    subst h1; subst h2
    obtain ⟨f, g1, g2, g3⟩ := run_places l2 _ tr2 s' hr
    exact ⟨f, g1, g2, rfl, g3⟩
  | o :: r, l2, s, tr, s1, tr2, s', ⟨rd, val, wr, tr', h1, h2, h3, h4⟩, hr => by
    obtain ⟨f, g1, g2, g2', g3⟩ := run_places2 r l2 _ tr' s1 tr2 s' h4 hr
    let F : Nat → Done := fun i => match i with | 0 => ⟨rd, val, wr⟩ | i + 1 => f i
    have hup : ∀ k, upTo (o :: (r ++ l2)) F s (fun _ => true) (k + 1) = upTo (r ++ l2) f (s.put o.dst val wr) (fun _ => true) k := by
      intro k
      induction k with
      | zero => simp [upTo, F]
      | succ k ih =>
        have e1 : upTo (o :: (r ++ l2)) F s (fun _ => true) (k + 1 + 1) = (upTo (o :: (r ++ l2)) F s (fun _ => true) (k + 1)).put (((o :: (r ++ l2))[k + 1]?).bind (·.dst)) (F (k + 1)).val (F (k + 1)).wr := by
          simp only [upTo, if_true]
        rw [e1, ih]
        simp only [upTo, if_true, List.getElem?_cons_succ, F]
    refine ⟨F, by simp only [h1, List.cons_append, List.length_cons, g1], ?_, ?_, fun i o' hi => ?_⟩
    · rw [g2, List.cons_append, List.length_cons, hup]
    · rw [g2', List.cons_append, List.length_cons, hup]
    · subst h1
      cases i with
      | zero =>
        simp only [List.cons_append, List.getElem?_cons_zero, Option.some.injEq] at hi
        subst hi
        exact ⟨rfl, h2, h3⟩
      | succ i =>
        simp only [List.cons_append, List.getElem?_cons_succ] at hi ⊢
        obtain ⟨q1, q2, q3⟩ := g3 i o' hi
        refine ⟨q1, q2, ?_⟩
        rw [hup]
        exact q3
def Alt (P : Program) (l : List Oper) (i0 g0 : Nat) (s1 : St) : Prop := ∀ o0, l[i0]? = some o0 → ∃ d0, o0.dst = some d0 ∧
  ∀ st : St, (∀ t, t ∈ o0.looksAt l.toArray → st.env.at t = s1.env.at t) → st.mem.at g0 = s1.mem.at g0 → ∃ rd, GStep P l.toArray o0 st rd (s1.env.at d0) []
def keepX (l : List Oper) (n1 i0 j0 g0 : Nat) (tr : List (List Nat × List Nat)) : Bool :=
  (match tr[i0]? with | some x => x.2.isEmpty | none => false) && Nat.blt i0 j0 && Nat.beq n1 (j0 + 1) && Nat.ble n1 l.length &&
  (List.range l.length).all (fun j => match tr[j]? with | some x => !x.2.contains g0 || Nat.beq j j0 || (Nat.ble n1 j && ((bef l []).getD j 0).testBit i0) | none => true) &&
  (List.range l.length).all (fun j => Nat.blt j i0 || Nat.ble n1 j || match l[j]?, l[i0]? with
    | some oj, some o0 => (match oj.dst with | some t => !((o0.looksAt l.toArray).contains t) && (Nat.beq j i0 || !(o0.dst == some t)) | none => true)
    | _, _ => true)
def dropX (i0 g0 : Nat) (tr : List (List Nat × List Nat)) : List (List Nat × List Nat) := tr.modify i0 fun x => (x.1.filter (fun g => !Nat.beq g g0), x.2)
def chkX (l : List Oper) (n1 i0 j0 g0 : Nat) (acc : List (List Nat × List Nat)) : Bool := keepX l n1 i0 j0 g0 acc.reverse && chk l (dropX i0 g0 acc.reverse).reverse
section
variable {P : Program} {Q : Exit → Act → World → Prop} {l : List Oper} {f : Nat → Done} {s : St} {tr : List (List Nat × List Nat)} {C0 : Cf}
theorem any_of_runX (md : Region.Mode)
    (hf : ∀ (i : Nat) o, l[i]? = some o → tr[i]? = some ((f i).rd, (f i).wr.map (·.1)) ∧ dOK s o.dst = true ∧ ∀ p : Nat → Bool, p i = false → (∀ k, p k = true → ∀ b j, (bef l [])[k]? = some b → b.testBit j = true → p j = true) →
      (∀ t, t ∈ o.looksAt l.toArray → (upTo l f s p l.length).env.at t = (upTo l f s (fun _ => true) i).env.at t) → (∀ g, g ∈ (f i).rd ∨ g ∈ (f i).wr.map (·.1) → (upTo l f s p l.length).mem.at g = (upTo l f s (fun _ => true) i).mem.at g) →
      ∃ rd, GStep P l.toArray o (upTo l f s p l.length) rd (f i).val (f i).wr)
    (hc : chkAll l.toArray l tr l tr (bef l []) 0 = true) (q : List Nat) (ht : topo l.toArray md [] q = true) (hq : ∀ i, i < l.length → i ∈ q) (hqn : ∀ i, i ∈ q → i < l.length)
    (hQ : ∀ C' a', Holds C' (upTo l f s (fun _ => true) l.length) a' → Step C0 s.mem C' (upTo l f s (fun _ => true) l.length).mem → Q .normal a' C'.w) :
    ∀ (fuel : Nat) (L : Array Bool) (C : Cf) (a : Act), L.size = l.length → (L.toList.countP (fun b => !b)) ≤ fuel →
      (∀ (i : Nat), L.getD i false = true → ∀ b j, (bef l [])[i]? = some b → b.testBit j = true → L.getD j false = true) →
      Holds C (upTo l f s (fun i => L.getD i false) l.length) a → Step C0 s.mem C (upTo l f s (fun i => L.getD i false) l.length).mem → wpAny P md l.toArray Q fuel L a C.w := by
  obtain ⟨hbl, hbs⟩ := bef_ok l [] [] rfl (by simp)
  simp only [List.nil_append] at hbl hbs
  have hready : ∀ (L : Array Bool) (i : Nat), i ∈ Region.ready md l.toArray L ↔ i < l.length ∧ L.getD i true = false ∧ ∀ o, l[i]? = some o → ∀ e, e ∈ o.after.toList → Region.binds md e = true → L.getD e.on false = true := by
    intro L i
    simp only [Region.ready, List.size_toArray, List.mem_filter, List.mem_range, Bool.and_eq_true, Bool.not_eq_true']
    constructor
    · rintro ⟨h1, h2, h3⟩
      refine ⟨h1, h2, fun o ho e he hb => ?_⟩
      have ho' : l.toArray[i]? = some o := by simpa using ho
      rw [ho'] at h3
      simp only [Option.map_some, Option.getD_some, Array.all_eq_true'] at h3
      have := h3 e (by simpa using he)
      rw [hb] at this
      simpa using this
    · rintro ⟨h1, h2, h3⟩
      refine ⟨h1, h2, ?_⟩
      have ho : l[i]? = some l[i] := List.getElem?_eq_getElem h1
      have ho' : l.toArray[i]? = some l[i] := by simp [ho]
      rw [ho']
      simp only [Option.map_some, Option.getD_some, Array.all_eq_true']
      intro e he
      cases hb : Region.binds md e with
      | false => rfl
      | true => simpa using h3 l[i] ho e (by simpa using he) hb
  have hgd : ∀ (L : Array Bool) (i : Nat), i < L.size → L.getD i true = L.getD i false := fun L i hi => by simp [hi]
  have hall : ∀ (L : Array Bool), L.size = l.length → Region.ready md l.toArray L = [] → ∀ i, i < l.length → L.getD i false = true := by
    intro L hL hr i hi
    rcases Bool.eq_false_or_eq_true (L.getD i false) with h | h
    · exact h
    · obtain ⟨k, k1, k2, k3⟩ := topo_ok (L := fun i => L.getD i false) q [] ht (by simp) ⟨i, hq i hi, h⟩
      have hk := hqn k k1
      have : k ∈ Region.ready md l.toArray L := (hready L k).2 ⟨hk, by rw [hgd L k (by omega)]; exact k2, fun o ho e he hb => k3 o (by simpa using ho) e he hb⟩
      rw [hr] at this
      cases this
  have hsame : ∀ (L : Array Bool), (∀ i, i < l.length → L.getD i false = true) → SameSt (upTo l f s (fun i => L.getD i false) l.length) (upTo l f s (fun _ => true) l.length) :=
    fun L h => ⟨fun t => upTo_env _ (fun j hj _ => h j hj), fun g => upTo_mem _ (fun j hj _ => h j hj), by rw [upTo_n, upTo_n]⟩
  have hfin : ∀ (L : Array Bool) (C : Cf) (a : Act), L.size = l.length → Region.ready md l.toArray L = [] → Holds C (upTo l f s (fun i => L.getD i false) l.length) a → Step C0 s.mem C (upTo l f s (fun i => L.getD i false) l.length).mem → Q .normal a C.w := by
    intro L C a hL hr hh hx
    have hs := hsame L (hall L hL hr)
    exact hQ C a (Holds_congr hs hh) (Step_congr (fun _ => rfl) hs.mem hx)
  intro fuel
  induction fuel with
  | zero =>
    intro L C a hL hcnt _ hh hx
    have h0 : ∀ i, i < l.length → L.getD i true = true := by
      intro i hi
      have := List.countP_eq_zero.1 (Nat.le_zero.1 hcnt)
      have hm : L[i]'(by omega) ∈ L.toList := by simp
      have := this _ hm
      simp only [Bool.not_eq_true, Bool.not_eq_false'] at this
      simp [show i < L.size by omega, this]
    have hr : Region.ready md l.toArray L = [] := by
      rw [List.eq_nil_iff_forall_not_mem]
      intro i hi
      obtain ⟨q1, q2, _⟩ := (hready L i).1 hi
      rw [h0 i q1] at q2
      cases q2
    exact ⟨hr, hfin L C a hL hr hh hx⟩
  | succ fuel ih =>
    intro L C a hL hcnt hdown hh hx
    refine ⟨fun hr => hfin L C a hL hr hh hx, fun i hi => ?_⟩
    obtain ⟨hil, hiL, hie⟩ := (hready L i).1 hi
    have ho : l[i]? = some l[i] := List.getElem?_eq_getElem hil
    obtain ⟨htr, hdok, hg⟩ := hf i l[i] ho
    have hiL' : L.getD i false = false := by rw [← hgd L i (by omega)]; exact hiL
    -- what i hangs on is listed
    have hpre : ∀ b j, (bef l [])[i]? = some b → b.testBit j = true → L.getD j false = true := by
      intro b j hb hj
      obtain ⟨o', e, q1, q2, q3, q4⟩ := hbs i b j hb hj
      rw [ho] at q1
      injection q1 with q1
      subst q1
      have he := hie l[i] ho e q2 (binds_any q3)
      rcases q4 with rfl | q4
      · exact he
      · have hlt : e.on < (bef l []).length := by
          rcases Nat.lt_or_ge e.on (bef l []).length with h | h
          · exact h
          · rw [List.getD_eq_getElem?_getD, List.getElem?_eq_none h] at q4; simp at q4
        have hbe : (bef l [])[e.on]? = some ((bef l []).getD e.on 0) := by
          rw [List.getD_eq_getElem?_getD, List.getElem?_eq_getElem hlt]; rfl
        exact hdown e.on he _ j hbe q4
    have hbi : ∀ k, k < l.length → ∃ b, (bef l [])[k]? = some b := fun k hk => ⟨_, List.getElem?_eq_getElem (by rw [hbl]; exact hk)⟩
    -- two that touch each other are ordered
    have hord : ∀ j k, j < k → k < l.length → ∀ oj ok, l[j]? = some oj → l[k]? = some ok → touch l.toArray ok ((f k).rd, (f k).wr.map (·.1)) oj ((f j).rd, (f j).wr.map (·.1)) = true →
        ∀ b, (bef l [])[k]? = some b → b.testBit j = true := by
      intro j k hjk hk oj ok hj hko htc b hb
      have h1 := chkAll_ok hc k ok _ b hko (hf k ok hko).1 hb
      have := chkOne_ok h1 j oj ((f j).rd, (f j).wr.map (·.1)) (by rw [Nat.zero_add, List.getElem?_take, if_pos hjk]; exact hj) (by rw [Nat.zero_add, List.getElem?_take, if_pos hjk]; exact (hf j oj hj).1) htc
      simpa using this
    -- a writer of what i looks at is listed just if it is ahead of i
    have hlist : ∀ j oj, j < l.length → l[j]? = some oj → j ≠ i → (touch l.toArray l[i] ((f i).rd, (f i).wr.map (·.1)) oj ((f j).rd, (f j).wr.map (·.1)) = true ∧ touch l.toArray oj ((f j).rd, (f j).wr.map (·.1)) l[i] ((f i).rd, (f i).wr.map (·.1)) = true) →
        L.getD j false = decide (j < i) := by
      intro j oj hj hoj hne htc
      rcases Nat.lt_or_gt_of_ne hne with h | h
      · obtain ⟨b, hb⟩ := hbi i hil
        rw [hpre b j hb (hord j i h hil oj l[i] hoj ho htc.1 b hb)]
        simp [h]
      · obtain ⟨b, hb⟩ := hbi j hj
        have hbit := hord i j h hj l[i] oj ho hoj htc.2 b hb
        have : L.getD j false = false := by
          rcases Bool.eq_false_or_eq_true (L.getD j false) with hl' | hl'
          · rw [hdown j hl' b i hb hbit] at hiL'
            cases hiL'
          · exact hl'
        rw [this]
        simp; omega
    have hdstof : ∀ j t, (l[j]?).bind (·.dst) = some t → ∃ oj, l[j]? = some oj ∧ oj.dst = some t ∧ j < l.length := by
      intro j t h
      cases hj : l[j]? with
      | none => rw [hj] at h; cases h
      | some oj => rw [hj] at h; exact ⟨oj, rfl, h, (List.getElem?_eq_some_iff.1 hj).1⟩
    obtain ⟨rdn, hgn⟩ : ∃ rd, GStep P l.toArray l[i] (upTo l f s (fun i => L.getD i false) l.length) rd (f i).val (f i).wr := by
      refine hg (fun i => L.getD i false) hiL' hdown (fun t ht' => ?_) (fun g hgm => ?_)
      · rw [← upTo_less l.length (Nat.le_of_lt hil)]
        refine upTo_env _ (fun j hj hd => ?_)
        obtain ⟨oj, hoj, hdj, _⟩ := hdstof j t hd
        by_cases hne : j = i
        · subst hne
          rw [hiL']; simp
        · exact hlist j oj hj hoj hne ⟨touch_dst hdj (.inl ht'), touch_dst' hdj ht'⟩
      · rw [← upTo_less l.length (Nat.le_of_lt hil)]
        refine upTo_mem _ (fun j hj hd => ?_)
        have hoj : l[j]? = some l[j] := List.getElem?_eq_getElem hj
        by_cases hne : j = i
        · subst hne
          rw [hiL']; simp
        · refine hlist j l[j] hj hoj hne ⟨touch_wr (g := g) hd hgm, ?_⟩
          rcases hgm with h | h
          · exact touch_wr' (g := g) hd h
          · exact touch_wr (g := g) h (.inr hd)
    have hsz : (L.setIfInBounds i true).size = l.length := by simpa using hL
    have hget : ∀ j, (L.setIfInBounds i true).getD j false = (decide (j = i) || L.getD j false) := by
      intro j
      by_cases hj : j = i
      · subst hj
        simp [show j < L.size by omega]
      · simp [Ne.symm hj, hj]
    have hadd : SameSt ((upTo l f s (fun i => L.getD i false) l.length).put ((l[i]?).bind (·.dst)) (f i).val (f i).wr) (upTo l f s (fun j => (L.setIfInBounds i true).getD j false) l.length) := by
      have e : (fun j => (L.setIfInBounds i true).getD j false) = fun j => decide (j = i) || L.getD j false := funext hget
      rw [e]
      refine upTo_add hil (fun t hd j hij hj hdj => ?_) (fun g hg' j hij hj hgj => ?_)
      · obtain ⟨oj, hoj, hdj', _⟩ := hdstof j t hdj
        have hdi : l[i].dst = some t := by rw [ho] at hd; exact hd
        rw [hlist j oj hj hoj (by omega) ⟨touch_dst hdj' (.inr hdi), touch_dst hdi (.inr hdj')⟩]
        simp; omega
      · have hoj : l[j]? = some l[j] := List.getElem?_eq_getElem hj
        rw [hlist j l[j] hj hoj (by omega) ⟨touch_wr (g := g) hgj (.inr hg'), touch_wr (g := g) hg' (.inr hgj)⟩]
        simp; omega
    have hbind : (l[i]?).bind (·.dst) = l[i].dst := by rw [ho]; rfl
    rw [hbind] at hadd
    have hcnt' : ((L.setIfInBounds i true).toList.countP (fun b => !b)) ≤ fuel := by
      have hLl : i < L.toList.length := by simpa [hL] using hil
      have hdec : (L.toList.set i true).countP (fun b => !b) + 1 = L.toList.countP (fun b => !b) := by
        have hx : L.toList[i] = false := by
          have : L.getD i false = L[i]'(by omega) := by simp [show i < L.size by omega]
          rw [this] at hiL'
          simpa using hiL'
        have hpos : 0 < L.toList.countP (fun b => !b) := List.countP_pos_iff.2 ⟨false, hx ▸ List.getElem_mem hLl, rfl⟩
        rw [List.countP_set hLl]
        rw [hx]
        simp only [Bool.not_false, Bool.not_true, if_true, Bool.false_eq_true, if_false]
        omega
      have : (L.setIfInBounds i true).toList = L.toList.set i true := by simp
      rw [this]
      omega
    have hdown' : ∀ (k : Nat), (L.setIfInBounds i true).getD k false = true → ∀ b j, (bef l [])[k]? = some b → b.testBit j = true → (L.setIfInBounds i true).getD j false = true := by
      intro k hk b j hb hj
      rw [hget] at hk ⊢
      by_cases hki : k = i
      · subst hki
        rw [hpre b j hb hj]; simp
      · simp only [hki, decide_false, Bool.false_or] at hk
        rw [hdown k hk b j hb hj]; simp
    show wpOp P l.toArray Q i (wpAny P md l.toArray Q fuel (L.setIfInBounds i true)) a C.w
    have ho' : l.toArray[i]? = some l[i] := by simp [ho]
    have hstep := gstep_wp (Q := Q) (next := wpAny P md l.toArray Q fuel (L.setIfInBounds i true)) hgn (by
      have : dOK (upTo l f s (fun i => L.getD i false) l.length) l[i].dst = dOK s l[i].dst := by
        unfold dOK
        cases l[i].dst <;> simp [upTo_n]
      rw [this]; exact hdok) hh (fun C' a' h' x' => ih _ C' a' hsz hcnt' hdown' (Holds_congr hadd h') (Step_congr (fun _ => rfl) hadd.mem (hx.trans x')))
    unfold wpOp
    rw [ho']
    show if Region.wanted l[i] (yielded l.toArray a.tmps) = true then _ else _
    split
    · rename_i hw; rw [if_pos hw] at hstep; exact .inl hstep
    · rename_i hw; rw [if_neg hw] at hstep; exact hstep
theorem alt_step {P : Program} {s s1 : St} {l l1 l2 : List Oper} {i0 j0 g0 : Nat} {f f0 : Nat → Done} {tr : List (List Nat × List Nat)} (_hl : l = l1 ++ l2) (halt : Alt P l i0 g0 s1) (hkeep : keepX l l1.length i0 j0 g0 tr = true)
    (hfd : f = fun i => if i = i0 then { f0 i with rd := (f0 i).rd.filter (fun g => !Nat.beq g g0) } else f0 i) (hs1 : s1 = upTo l f s (fun _ => true) l1.length)
    (h3 : ∀ (i : Nat) o, l[i]? = some o → tr[i]? = some ((f0 i).rd, (f0 i).wr.map (·.1)) ∧ dOK s o.dst = true ∧ GStep P l.toArray o (upTo l f s (fun _ => true) i) (f0 i).rd (f0 i).val (f0 i).wr) :
    ∀ (i : Nat) o, l[i]? = some o → (dropX i0 g0 tr)[i]? = some ((f i).rd, (f i).wr.map (·.1)) ∧ dOK s o.dst = true ∧ ∀ p : Nat → Bool, p i = false → (∀ k, p k = true → ∀ b j, (bef l [])[k]? = some b → b.testBit j = true → p j = true) →
      (∀ t, t ∈ o.looksAt l.toArray → (upTo l f s p l.length).env.at t = (upTo l f s (fun _ => true) i).env.at t) → (∀ g, g ∈ (f i).rd ∨ g ∈ (f i).wr.map (·.1) → (upTo l f s p l.length).mem.at g = (upTo l f s (fun _ => true) i).mem.at g) →
      ∃ rd, GStep P l.toArray o (upTo l f s p l.length) rd (f i).val (f i).wr := by
  have hfv : ∀ i, (f i).val = (f0 i).val ∧ (f i).wr = (f0 i).wr := fun i => by rw [hfd]; dsimp only; split <;> exact ⟨rfl, rfl⟩
  have hfr : ∀ i, i ≠ i0 → (f i).rd = (f0 i).rd := fun i hi => by rw [hfd]; dsimp only; rw [if_neg hi]
  have hf0 : (f i0).rd = (f0 i0).rd.filter (fun g => !Nat.beq g g0) := by rw [hfd]; dsimp only; rw [if_pos rfl]
  intro i o hi
  obtain ⟨t1, t2, t3⟩ := h3 i o hi
  have hil : i < l.length := (List.getElem?_eq_some_iff.1 hi).1
  refine ⟨?_, t2, fun p hp hcl he hm => ?_⟩
  · unfold dropX
    rw [List.getElem?_modify, t1, (hfv i).2]
    by_cases h : i0 = i
    · subst h; simp [hf0]
    · simp [h, hfr i (Ne.symm h)]
  rw [(hfv i).1, (hfv i).2]
  by_cases hne : i = i0
  case neg => exact ⟨_, t3.at he (fun g hg => hm g (by rw [hfr i hne, (hfv i).2]; exact hg))⟩
  subst hne
  unfold keepX at hkeep
  simp only [Bool.and_eq_true, List.all_eq_true, List.mem_range, Nat.blt_eq, Nat.beq_eq, Nat.ble_eq, Bool.or_eq_true] at hkeep
  obtain ⟨⟨⟨⟨⟨k1, k2⟩, k3⟩, k4⟩, k5⟩, k6⟩ := hkeep
  rw [t1] at k1
  have hwr0 : (f0 i).wr = [] := by
    cases hw : (f0 i).wr with
    | nil => rfl
    | cons x r => rw [hw] at k1; cases k1
  -- who writes that box
  have hwj : ∀ j, j < l.length → j ≠ j0 → g0 ∈ (f j).wr.map (·.1) → l1.length ≤ j ∧ p j = false := fun j hj hjn hg => by
    have h1 := k5 j hj
    have hoj : l[j]? = some l[j] := List.getElem?_eq_getElem hj
    rw [(h3 j _ hoj).1] at h1
    simp only [Bool.not_eq_true', Bool.or_eq_true, Bool.and_eq_true, Nat.ble_eq, Nat.beq_eq] at h1
    rw [(hfv j).2] at hg
    rcases h1 with (h1 | h1) | h1
    · rw [List.contains_eq_any_beq] at h1
      have : ((f0 j).wr.map (·.1)).any (fun x => g0 == x) = true := List.any_eq_true.2 ⟨g0, hg, by simp⟩
      rw [this] at h1; cases h1
    · exact absurd h1 hjn
    · refine ⟨h1.1, ?_⟩
      rcases Bool.eq_false_or_eq_true (p j) with hpj | hpj
      · have hbl := (bef_ok l [] [] rfl (by simp)).1
        simp only [List.nil_append] at hbl
        have hb : (bef l [])[j]? = some ((bef l []).getD j 0) := by
          rw [List.getD_eq_getElem?_getD, List.getElem?_eq_getElem (by rw [hbl]; exact hj)]; rfl
        have := hcl j hpj _ i hb h1.2
        rw [hp] at this; cases this
      · exact hpj
  have hdj : ∀ j, j < l.length → i ≤ j → j < l1.length → ∀ t, (l[j]?).bind (·.dst) = some t → t ∉ o.looksAt l.toArray ∧ (j = i ∨ o.dst ≠ some t) := fun j hj h1 h2 t ht => by
    have h6 := k6 j hj
    have hoj : l[j]? = some l[j] := List.getElem?_eq_getElem hj
    rw [hoj] at ht
    rw [hoj, hi] at h6
    have ht : l[j].dst = some t := ht
    rcases h6 with (h6 | h6) | h6
    · omega
    · omega
    · simp only [ht, Bool.and_eq_true, Bool.not_eq_true', Bool.or_eq_true, Nat.beq_eq] at h6
      refine ⟨fun hm => ?_, ?_⟩
      · have := h6.1
        rw [List.contains_eq_any_beq] at this
        rw [List.any_eq_true.2 ⟨t, hm, by simp⟩] at this; cases this
      · rcases h6.2 with h | h
        · exact .inl h
        · refine .inr (fun e => ?_)
          rw [e] at h; simp at h
  rcases Bool.eq_false_or_eq_true (p j0) with hpj | hpj
  · -- behind the entry
    obtain ⟨d0, hd0, ha⟩ := halt o hi
    have hval : s1.env.at d0 = (f0 i).val := by
      rw [hs1, ← upTo_less l.length k4]
      have e1 : (upTo l f s (fun j => decide (j < l1.length)) l.length).env.at d0 = (upTo l f s (fun j => decide (j < i + 1)) l.length).env.at d0 := upTo_env _ (fun j hj hd => by
        by_cases h1 : j < i + 1
        · rw [decide_eq_true h1, decide_eq_true (by omega)]
        · rw [decide_eq_false h1]
          refine decide_eq_false (fun h2 => ?_)
          rcases (hdj j hj (by omega) h2 d0 hd).2 with h | h
          · omega
          · exact h hd0)
      rw [e1, upTo_less l.length (by omega)]
      simp only [upTo, if_true]
      rw [put_env, hi, (hfv i).1]
      exact if_pos hd0
    rw [← hval, hwr0]
    refine ha _ (fun t ht => ?_) ?_
    · rw [he t ht, ← upTo_less l.length (Nat.le_of_lt hil), hs1, ← upTo_less l.length k4]
      refine upTo_env _ (fun j hj hd => ?_)
      by_cases h1 : j < i
      · rw [decide_eq_true h1, decide_eq_true (by omega)]
      · rw [decide_eq_false h1]
        exact (decide_eq_false (fun h2 => (hdj j hj (by omega) h2 t hd).1 ht)).symm
    · rw [hs1, ← upTo_less l.length k4]
      refine upTo_mem _ (fun j hj hg => ?_)
      by_cases h1 : j = j0
      · subst h1; rw [hpj]; exact (decide_eq_true (by omega)).symm
      · obtain ⟨h2, h4⟩ := hwj j hj h1 hg
        rw [h4]; exact (decide_eq_false (by omega)).symm
  · refine ⟨_, t3.at he (fun g hg => ?_)⟩
    by_cases hgg : g = g0
    · subst hgg
      rw [← upTo_less l.length (Nat.le_of_lt hil)]
      refine upTo_mem _ (fun j hj hgj => ?_)
      by_cases h1 : j = j0
      · subst h1; rw [hpj]; exact (decide_eq_false (by omega)).symm
      · obtain ⟨h2, h4⟩ := hwj j hj h1 hgj
        rw [h4]; exact (decide_eq_false (by omega)).symm
    · refine hm g ?_
      rcases hg with hg | hg
      · exact .inl (by rw [hf0]; exact List.mem_filter.2 ⟨hg, by rw [Bool.not_eq_true', ← Bool.not_eq_true, Nat.beq_eq]; exact hgg⟩)
      · exact .inr (by rw [(hfv i).2]; exact hg)
theorem draw_wpX {P : Program} {Q : Exit → St → Prop} {s : St} {id : Nat} {l : List Oper} (l1 l2 : List Oper) (i0 j0 g0 : Nat) (hl : l = l1 ++ l2)
    (h : DOps P l.toArray l1 s [] (fun acc1 s1 => Alt P l i0 g0 s1 ∧ DOps P l.toArray l2 s1 acc1 (fun acc s' => chkX l l1.length i0 j0 g0 acc = true ∧ Q .normal s'))) {C : Cf} {a : Act} (hh : Holds C s a) :
    (Code.region id l.toArray true).wp P (fun e a' w' => ∃ C' s', C'.w = w' ∧ Q e s' ∧ Holds C' s' a' ∧ Step C s.mem C' s'.mem) a C.w := by
  obtain ⟨tr1, s1, hr1, halt, tr2, s', hr2, hcx, hq⟩ := h
  rw [List.append_nil, ← List.reverse_append] at hcx
  unfold chkX at hcx
  rw [List.reverse_reverse, Bool.and_eq_true] at hcx
  obtain ⟨hkeep, hc⟩ := hcx
  unfold chk at hc
  rw [List.reverse_reverse] at hc
  simp only [Bool.and_eq_true] at hc
  obtain ⟨⟨⟨c1, c2⟩, c3⟩, ⟨c4, c5⟩, c6⟩ := hc
  obtain ⟨f0, g1, g2, gs1, g30⟩ := run_places2 l1 l2 s tr1 s1 tr2 s' hr1 hr2
  rw [← hl] at g1 g2 gs1 g30
  obtain ⟨f, hfdef⟩ : ∃ f : Nat → Done, f = fun i => if i = i0 then { f0 i with rd := (f0 i).rd.filter (fun g => !Nat.beq g g0) } else f0 i := ⟨_, rfl⟩
  have hfv : ∀ i, (f i).val = (f0 i).val ∧ (f i).wr = (f0 i).wr := fun i => by rw [hfdef]; dsimp only; split <;> exact ⟨rfl, rfl⟩
  have hup : ∀ p k, upTo l f0 s p k = upTo l f s p k := fun p k => by
    induction k with
    | zero => rfl
    | succ k ih => simp only [upTo, ih, (hfv k).1, (hfv k).2]
  rw [hup] at g2 gs1
  subst g2
  have g3 := alt_step (P := P) (s := s) hl halt hkeep hfdef (by rw [gs1]) (fun i o hi => by have := g30 i o hi; rw [hup] at this; exact this)
  have hd : ∀ n x v, RdF C n x v → RdF { C with w := C.w.drew } n x v := fun n x v h => Rd.mono h (fun _ h => h) (fun _ _ => rfl)
  have hs : ∀ d v, RdS C s.mem d v → RdS { C with w := C.w.drew } s.mem d v := by
    intro d v h
    cases d with
    | dat n x => exact hd n x v h
    | _ => exact h
  have hdrew : Holds { C with w := C.w.drew } s a := by
    exact ⟨⟨fun g => BoxOK.upd (hh.mem.box g) (fun _ _ => rfl) hd hs (fun _ h => h) (fun _ h => h), hh.mem.inj, hh.mem.sep, hh.mem.sdom, hh.mem.ns⟩, hh.defers, hh.size, fun t => RdD.of_S hs _ _ (hh.env t)⟩
  have hx0 : Step C s.mem { C with w := C.w.drew } s.mem := ⟨⟨rfl, rfl, rfl, Nat.le_refl _, fun _ _ _ => rfl, fun g b h1 h2 => .inr ⟨g, h1, h2⟩, fun _ h => h, fun _ h => h, fun _ h => .inl h, fun _ h => .inl h⟩, hdrew.mem, RdD.of_S hs⟩
  have h0 : ∀ p : Nat → Bool, (∀ j, p j = false) → SameSt s (upTo l f s p l.length) := by
    intro p hp
    have : ∀ k, upTo l f s p k = s := by
      intro k
      induction k with
      | zero => rfl
      | succ k ih => simp only [upTo, hp, Bool.false_eq_true, if_false, ih]
    rw [this]
    exact ⟨fun _ => rfl, fun _ => rfl, rfl⟩
  have hgo : ∀ (md : Region.Mode) (q : List Nat), topo l.toArray md [] q = true → (∀ i, i < l.length → i ∈ q) → (∀ i, i ∈ q → i < l.length) → ∀ t,
      wpOps P l.toArray (fun e a' w' => ∃ C' s', C'.w = w' ∧ Q e s' ∧ Holds C' s' a' ∧ Step C s.mem C' s'.mem) (Region.linearise md l.toArray t) a C.w.drew := by
    intro md q t1 t2 t3 t
    have hrep : ∀ j, (Array.replicate l.length false).getD j false = false := fun j => by
      rw [Array.getD_eq_getD_getElem?, Array.getElem?_replicate]
      split <;> rfl
    have := any_of_runX (C0 := C) (Q := fun e a' w' => ∃ C' s', C'.w = w' ∧ Q e s' ∧ Holds C' s' a' ∧ Step C s.mem C' s'.mem) md g3 c1 q t1 t2 t3 (fun C' a' h' x' => ⟨C', _, rfl, hq, h', x'⟩) l.length
      (Array.replicate l.length false) { C with w := C.w.drew } a (by simp) (by simp [List.countP_replicate]) (fun i hi => by rw [hrep] at hi; cases hi)
      (Holds_congr (h0 _ hrep) hdrew) (Step_congr (fun _ => rfl) (h0 _ hrep).mem hx0)
    have h2 := wpAny_sound l.length t _ a _ this
    have e : Region.linearise md l.toArray t = Region.linearise.go md l.toArray l.length t (Array.replicate l.length false) [] := by
      unfold Region.linearise
      simp
    rw [e]
    exact h2
  refine wp_region_draw fun t => ?_
  show wpOps P l.toArray _ (Region.schedule (P.follows .mixedOrders) l.toArray t) a C.w.drew
  unfold Region.schedule
  split
  · exact hgo .any (List.range l.length) c2 (fun i hi => List.mem_range.2 hi) (fun i hi => List.mem_range.1 hi) t
  · split
    · exact hgo .text (List.range l.length) c3 (fun i hi => List.mem_range.2 hi) (fun i hi => List.mem_range.1 hi) _
    · refine hgo .gc _ c4 (fun i hi => ?_) (fun i hi => ?_) _
      · rw [List.all_eq_true] at c5
        simpa using c5 i (List.mem_range.2 hi)
      · rw [List.all_eq_true] at c6
        have := c6 i hi
        simpa [Nat.blt_eq] using this
theorem DW_drawX {P : Program} {Q : Exit → St → Prop} {s : St} {id : Nat} {l : List Oper} (l1 l2 : List Oper) (i0 j0 g0 : Nat) (hl : l = l1 ++ l2)
    (h : DOps P l.toArray l1 s [] (fun acc1 s1 => Alt P l i0 g0 s1 ∧ DOps P l.toArray l2 s1 acc1 (fun acc s' => chkX l l1.length i0 j0 g0 acc = true ∧ Q .normal s'))) : DW P (.region id l.toArray true) Q s := fun _C _a hh =>
  Code.wp_mono (fun _ _ _ ⟨C2, s2, e2, q2, h2, x2⟩ => ⟨C2, s2, e2, q2, h2, x2.ext⟩) (draw_wpX l1 l2 i0 j0 g0 hl h hh)
end
end Go.Proofs.Ytkppkgahdoglpaa
