/- Law: PlanTrees. -/
import Derived.Test.YtkppkgahdoglpaaybNst
import Derived.Test.YtkppkgahdoglpaaybRg
import Derived.Test.YtkppkgahdoglpaaydPlQ
namespace Go.Proofs.Ytkppkgahdoglpaa
open Go.RowKit
theorem look_out : ∀ {m : Mem} {g : Nat}, g ∉ m.map (·.1) → Mem.at m g = .gone
  | [], _, _ => rfl
  | (k, b) :: r, g, h => by
    simp only [List.map_cons, List.mem_cons, not_or] at h
    show look .gone ((k, b) :: r) g = _
    rw [look_cons, if_neg (fun e => h.1 e.symm)]
    exact look_out h.2
theorem mem_eqL {m m' : Mem} {ks ks' : List Nat} (e : m.map (·.1) = ks) (e' : m'.map (·.1) = ks') (h : ∀ g, g ∈ ks' → m.at g = m'.at g) (hs : ks.all (ks'.contains ·) = true) : ∀ g, m.at g = m'.at g := fun g => by
  by_cases hg : g ∈ ks'
  · exact h g hg
  · rw [look_out (m := m') (by rw [e']; exact hg), look_out (m := m) (by
      rw [e]; intro hm
      have := List.all_eq_true.1 hs g hm
      exact hg (by simpa using this))]
inductive Lnd (m : Mem) : D → V → Prop
  | asb {d : D} {x : V} (h : asB m d = some x) : Lnd m d x
  | sl {g n sz : Nat} {frz nw : Bool} {cs : List D} {xs : List (List V)} (dc : Nat → Nat → D) (hm : m.at g = .cells frz nw cs) (hn : n = xs.length) (hsz : ∀ (i : Nat) (e : List V), xs[i]? = some e → e.length = sz)
      (h1 : ∀ (i j : Nat) (e : List V) (x : V), xs[i]? = some e → e[j]? = some x → x.one = true) (hc : ∀ (i j : Nat) (e : List V) (x : V), xs[i]? = some e → e[j]? = some x → cs[i * sz + j]? = some (dc i j))
      (hl : ∀ (i j : Nat) (e : List V) (x : V), xs[i]? = some e → e[j]? = some x → Lnd m (dc i j) x) : Lnd m (.sl g n) (.slice xs)
  | ptr {g off : Nat} {frz nw : Bool} {cs : List D} {xs : List V} (dc : Nat → D) (hm : m.at g = .cells frz nw cs) (h1 : ∀ (j : Nat) (x : V), xs[j]? = some x → x.one = true)
      (hc : ∀ (j : Nat) (x : V), xs[j]? = some x → cs[off + j]? = some (dc j)) (hl : ∀ (j : Nat) (x : V), xs[j]? = some x → Lnd m (dc j) x) : Lnd m (.ptr g off) (.rp xs)
  | aggd {cs : List D} {xs : List V} (hn : cs.length = xs.length) (hl : ∀ (j : Nat) (d : D) (x : V), cs[j]? = some d → xs[j]? = some x → Lnd m d x) : Lnd m (.aggd cs) (.agg xs)
theorem Lnd.ok {C : Cf} {m : Mem} (hm : HoldsM C m) {d : D} {x : V} (h : Lnd m d x) : ∀ {v : Value}, RdD C m d v → Rd (C.lent m) C.w x v := by
  induction h with
  | asb h => intro v hv; exact asB_ok hm h hv
  | @sl g n sz frz nw cs xs dc hg hn hsz h1 hc hl ih =>
    intro v hv
    have hv : RdS C m (.sl g n) v := hv
    obtain ⟨frz', nw', cs', b, cap, e1, hi, rfl, hle, hmx⟩ := hv
    have hb := hm.box g
    rw [hg] at hb
    obtain ⟨b', hi', arr, T, fz, k1, k2, k3, k4, k5⟩ := hb
    rw [hi] at hi'
    injection hi' with hi'
    subst hi' hn
    have key : ∀ (i j : Nat) (e : List V) (x : V), xs[i]? = some e → e[j]? = some x → arr[i * sz + j]? = some (arr.getD (i * sz + j) undef) ∧ Rd (C.lent m) C.w x (arr.getD (i * sz + j) undef) := by
      intro i j e x hx hj
      have hd := hc i j e x hx hj
      have hlt : i * sz + j < arr.size := by have := (List.getElem?_eq_some_iff.1 hd).1; omega
      have ha : arr[i * sz + j]? = some (arr.getD (i * sz + j) undef) := by simp [hlt]
      exact ⟨ha, ih i j e x hx hj (k4 _ _ _ hd ha).rd⟩
    refine Rd.slice xs b 0 cap sz (fun i j => arr.getD (i * sz + j) undef) hle hmx hsz h1 (fun _ => .inr ⟨g, by rw [hg]; simp, hi⟩) (fun i j e d q1 q2 => ?_) (fun i j e d q1 q2 => (key i j e d q1 q2).2)
    rw [Nat.zero_add, cell_of_arr k1]
    exact (key i j e d q1 q2).1
  | @ptr g off frz nw cs xs dc hg h1 hc hl ih =>
    intro v hv
    have hv : RdS C m (.ptr g off) v := hv
    obtain ⟨frz', nw', cs', b, e1, hi, rfl⟩ := hv
    have hb := hm.box g
    rw [hg] at hb
    obtain ⟨b', hi', arr, T, fz, k1, k2, k3, k4, k5⟩ := hb
    rw [hi] at hi'
    injection hi' with hi'
    subst hi'
    have key : ∀ (j : Nat) (x : V), xs[j]? = some x → arr[off + j]? = some (arr.getD (off + j) undef) ∧ Rd (C.lent m) C.w x (arr.getD (off + j) undef) := by
      intro j x hj
      have hd := hc j x hj
      have hlt : off + j < arr.size := by have := (List.getElem?_eq_some_iff.1 hd).1; omega
      have ha : arr[off + j]? = some (arr.getD (off + j) undef) := by simp [hlt]
      exact ⟨ha, ih j x hj (k4 _ _ _ hd ha).rd⟩
    refine Rd.rp xs b off (fun j => arr.getD (off + j) undef) h1 (.inr ⟨g, by rw [hg]; simp, hi⟩) (fun j d q => ?_) (fun j d q => (key j d q).2)
    rw [cell_of_arr k1]
    exact (key j d q).1
  | @aggd cs xs hn hl ih =>
    intro v hv
    obtain ⟨vs, rfl, hsz, hr⟩ := hv
    refine Rd.agg xs vs (by omega) (fun j x c hx hcv => ?_)
    have hj : j < cs.length := by have := (List.getElem?_eq_some_iff.1 hx).1; omega
    exact ih j cs[j] x (List.getElem?_eq_getElem hj) hx (hr j _ c (List.getElem?_eq_getElem hj) hcv).rd
def LndL (m : Mem) : List D → List V → Prop
  | [], [] => True
  | d :: r, x :: s => Lnd m d x ∧ LndL m r s
  | _, _ => False
theorem LndL.get {m : Mem} : ∀ {ds : List D} {xs : List V}, LndL m ds xs → ds.length = xs.length ∧ ∀ (j : Nat) d x, ds[j]? = some d → xs[j]? = some x → Lnd m d x
  | [], [], _ => ⟨rfl, by simp⟩
  | d :: r, x :: s, h => by
    obtain ⟨h1, h2⟩ := LndL.get h.2
    refine ⟨by simp [h1], fun j d' x' a b => ?_⟩
    cases j with
    | zero =>
      simp only [List.getElem?_cons_zero, Option.some.injEq] at a b
      subst a b; exact h.1
    | succ j => exact h2 j d' x' (by simpa using a) (by simpa using b)
  | [], _ :: _, h => h.elim
  | _ :: _, [], h => h.elim
section
variable {P : Program} {e : Operand → D} {m : Mem} {dst : Option Tmp} {ty : TypeId} {pos : String} {af : Array Edge} {gd : Option (Nat × Bool)}
theorem S_callL {f : FuncId} {args : Array Operand} {ats : Array TypeId} {ds : List V} {r : V} (rd : List Nat) (hc : FnF P f ds r) (ha : ∀ m' : Mem, (∀ g, g ∈ rd → m'.at g = m.at g) → LndL m' (args.toList.map e) ds) :
    SStep P ⟨dst, .call { callee := .value (.func f), args := args, argTypes := ats }, ty, pos, af, gd⟩ e m rd (.dat true r) [] := by
  intro C m' a next Q hag hm hx hn
  have hl := ha m' (fun g hg => hag g (.inl hg))
  obtain ⟨hlen, hall⟩ := hl.get
  have hrun : (execOp a.eval ⟨dst, .call { callee := .value (.func f), args := args, argTypes := ats }, ty, pos, af, gd⟩).run P C.w = .ok (.enter f (args.map a.eval)) C.w := by
    have hev : a.eval (.func f) = .func (.func f) #[] #[] := rfl
    simp only [execOp, resolve, hev, Deferred.ofValue, Sem.run_bind, Sem.run_pure, Result.andThen_ok, invoke, run_callFunc hc.1]
    simp
  obtain ⟨_, hc⟩ := hc
  unfold Oper.wp
  rw [hrun]
  show Calls P f (args.map a.eval) C.w _
  have hsd : ∀ b, C.lent m' b → b < C.w.heap.size := by
    rintro b (hb | ⟨g, h1, h2⟩)
    · exact hm.sdom b hb
    · exact BoxOK.lt hm h1 h2
  have hr : RdL (C.lent m') C.w ds (args.map a.eval) := by
    refine ⟨by simpa using hlen, fun j d c hd hcv => ?_⟩
    simp only [Array.getElem?_map, Option.map_eq_some_iff] at hcv
    obtain ⟨y, hy, rfl⟩ := hcv
    refine (hall j (e y) d (by rw [List.getElem?_map, Array.getElem?_toList, hy]; rfl) hd).ok hm (hx y ?_)
    simp only [Op.operands, Call.operands]
    exact Array.mem_append.2 (.inr (Array.mem_of_getElem? hy))
  refine (hc (C.lent m') C.w (args.map a.eval) hsd hr).mono ?_
  rintro e' w' ⟨v, rfl, hb, hrd⟩
  have hg : Grew C.w w' := ⟨hb.os, hb.tape, hb.output, hb.size, hb.block⟩
  have hst := step_dat (newB C.w w') hm hg (fun k hk => hk)
  exact hn v _ hst (Rd.mono hrd (fun _ h => .inr h) (fun _ _ => rfl))
end
end Go.Proofs.Ytkppkgahdoglpaa
namespace Go.Proofs.Ytkppkgahdoglpaa
open Go.RowKit
def prioN (n : Net) (br o : Nat) (p : Int) : Net := ⟨n.bridges.modify br fun b => { b with prios := b.prios.set o p }, n.links⟩
theorem modify_atT {α : Type} (f : α → α) (l : List α) (w j : Nat) : (l.modify w f)[j]? = if w = j then (l[j]?).map f else l[j]? := by
  rw [List.getElem?_modify]
  by_cases h : w = j
  · rw [if_pos h]; cases l[j]? <;> simp [h]
  · rw [if_neg h]; cases l[j]? <;> simp [h]
theorem modify_map {α β : Type} (g : α → β) (f : α → α) (l : List α) (w : Nat) (h : ∀ b, l[w]? = some b → g (f b) = g b) : (l.modify w f).map g = l.map g := by
  apply List.ext_getElem?
  intro i
  rw [List.getElem?_map, List.getElem?_map, modify_atT]
  split
  · rename_i e
    subst e
    cases hb : l[w]? with
    | none => rfl
    | some b => simp only [Option.map_some]; rw [h b hb]
  · rfl
theorem modify_mem {α : Type} {f : α → α} {l : List α} {w : Nat} {x : α} (h : x ∈ l.modify w f) : x ∈ l ∨ ∃ b, l[w]? = some b ∧ x = f b := by
  obtain ⟨i, hi⟩ := List.mem_iff_getElem?.1 h
  rw [modify_atT] at hi
  split at hi
  · rename_i e
    subst e
    cases hb : l[w]? with
    | none => rw [hb] at hi; cases hi
    | some b => rw [hb] at hi; injection hi with hi; exact .inr ⟨b, rfl, hi.symm⟩
  · exact .inl (List.mem_of_getElem? hi)
theorem prioN_typed {n : Net} (h : n.typed) (br o : Nat) (p : Int) : (prioN n br o p).typed where
  ad b hb := by
    rcases modify_mem hb with hb | ⟨c, hc, rfl⟩
    · exact h.ad b hb
    · exact h.ad c (List.mem_of_getElem? hc)
  wy b hb := by
    rcases modify_mem hb with hb | ⟨c, hc, rfl⟩
    · exact h.wy b hb
    · exact h.wy c (List.mem_of_getElem? hc)
theorem prio_ok {b : Bridge} (h : b.ok) {o : Nat} {p : Int} (hp : ¬ prioBad p) : Bridge.ok { b with prios := b.prios.set o p } where
  a0 := h.a0
  a1 := h.a1
  n := by simp only [List.length_set]; exact h.n
  p q hq := by
    rcases List.mem_or_eq_of_mem_set hq with hq | rfl
    · exact h.p q hq
    · exact hp
  r := h.r
theorem prioN_good {n : Net} (h : n.good) (br o : Nat) {p : Int} (hp : ¬ prioBad p) : (prioN n br o p).good where
  nb := by simp only [prioN, List.length_modify]; exact h.nb
  nl := h.nl
  br b hb := by
    rcases modify_mem hb with hb | ⟨c, hc, rfl⟩
    · exact h.br b hb
    · exact prio_ok (h.br c (List.mem_of_getElem? hc)) hp
  ad := by
    have : ((prioN n br o p).bridges.map (·.addr)) = n.bridges.map (·.addr) := modify_map _ _ _ _ (fun b _ => rfl)
    have h1 : (n.bridges.map (·.addr)).Pairwise (· ≠ ·) := List.pairwise_map.2 h.ad
    rw [← this] at h1
    exact List.pairwise_map.1 h1
  lk := by simp only [prioN, List.length_modify]; exact h.lk
  po := h.po
theorem prioN_plan {n : Net} (_ : n.good) {br o tree : Nat} {p : Int} (ht : o ≠ tree) : planF (prioN n br o p) tree = planF n tree := by
  have hid : (prioN n br o p).bridges.map (·.id tree) = n.bridges.map (·.id tree) := modify_map _ _ _ _ (fun b _ => by
    unfold Bridge.id Bridge.prio
    simp only [Int.toNat_natCast, List.getElem?_set_ne ht])
  have hlen : (prioN n br o p).bridges.length = n.bridges.length := by simp [prioN]
  have hids : idsR (prioN n br o p).bridges = idsR n.bridges := modify_map _ _ _ _ (fun b _ => rfl)
  have hlv : liveL (prioN n br o p) = liveL n := by
    show n.links.filter (liveB (prioN n br o p).bridges) = n.links.filter (liveB n.bridges)
    congr 1
    funext l
    unfold liveB
    rw [hids]
  rw [planF_C (n := n) (tree := tree) rfl rfl rfl]
  refine planF_C hid ?_ ?_
  · rw [hlen]
    apply List.map_congr_left
    intro i _
    unfold endsOf
    rw [hlv]
  · rw [hlen]; rfl
attribute [local irreducible] SStep DW DWin DOps thenQ inBlk loopQ retQ retQG FnF FnG FnI Wk IntKind.wrap IntKind.andI IntKind.orI IntKind.xorI IntKind.andNotI IntKind.shlI IntKind.shrI Net.wrong Bridge.id Bridge.prio identR idsR liveB planA planF liveL
set_option maxHeartbeats 8000000 in
theorem law_PlanTrees (n : Net) (ht : n.typed) (tree br o p : Int) : FnF Try.prog 10 [n.v, .int .i64 tree, .int .i64 br, .int .i64 o, .int .i64 p] (.bool true) := by
  refine fnF_of Try.func10 rfl rfl rfl ?_
  simp only [envOf]
  have hmb : (n.bridges.map bridgeV).length = n.bridges.length := by simp
  by_cases c1 : br < 0
  · repeat' (first
    | (apply Stp.go; case a => constructor)
    | refine blk_hit rfl ?_ | refine blk_miss rfl ?_ | refine dnilD (by kernel_rfl) ?_ | refine DW_cond_t rfl ?_ | refine DW_cond_f rfl ?_
    | refine DW_tD rfl (by omega) ?_ | refine DW_fD rfl (by omega) ?_
    | refine dpOff rfl rfl ?_
    | ((first | apply dX rfl | apply dXon rfl rfl | apply dpMay rfl rfl (by intro h; first | trivial | exact ⟨h, trivial⟩ | exact ⟨h, h, trivial⟩ | exact ⟨h, h, h, trivial⟩)); (case h => ((try intro hg); first | exact S_call law6_alive rfl | exact S_cT rfl rfl (by constructor) (by omega) | exact S_cF rfl rfl (by constructor) (by omega) | exact S_al rfl | exact S_bx rfl rfl | exact S_store rfl rfl rfl rfl rfl rfl | (apply Pu.ok; repeat' (first | rfl | exact .inK (by simp only [InK]; omega) | exact .inK (by simp only [InK]; simp at hg; omega) | exact .wr | constructor | decide | omega)))); (try case hp => constructor))
    | refine dpickAnd rfl rfl rfl rfl rfl ?_ | refine dpickOr rfl rfl rfl rfl rfl ?_
    | fail)
    refine ret1 rfl (by first | exact .inl rfl | exact .inr (flat_of rfl)) ?_
    rfl
  by_cases c2 : (n.bridges.length : Int) ≤ br
  · repeat' (first
    | (apply Stp.go; case a => constructor)
    | refine blk_hit rfl ?_ | refine blk_miss rfl ?_ | refine dnilD (by kernel_rfl) ?_ | refine DW_cond_t rfl ?_ | refine DW_cond_f rfl ?_
    | refine DW_tD rfl (by omega) ?_ | refine DW_fD rfl (by omega) ?_
    | refine dpOff rfl rfl ?_
    | ((first | apply dX rfl | apply dXon rfl rfl | apply dpMay rfl rfl (by intro h; first | trivial | exact ⟨h, trivial⟩ | exact ⟨h, h, trivial⟩ | exact ⟨h, h, h, trivial⟩)); (case h => ((try intro hg); first | exact S_call law6_alive rfl | exact S_cT rfl rfl (by constructor) (by omega) | exact S_cF rfl rfl (by constructor) (by omega) | exact S_al rfl | exact S_bx rfl rfl | exact S_store rfl rfl rfl rfl rfl rfl | (apply Pu.ok; repeat' (first | rfl | exact .inK (by simp only [InK]; omega) | exact .inK (by simp only [InK]; simp at hg; omega) | exact .wr | constructor | decide | omega)))); (try case hp => constructor))
    | refine dpickAnd rfl rfl rfl rfl rfl ?_ | refine dpickOr rfl rfl rfl rfl rfl ?_
    | fail)
    refine ret1 rfl (by first | exact .inl rfl | exact .inr (flat_of rfl)) ?_
    rfl
  obtain ⟨B, rfl⟩ : ∃ B : Nat, br = (B : Int) := ⟨br.toNat, by omega⟩
  have hB : B < n.bridges.length := by omega
  have hxb : n.bridges[(B : Int).toNat]? = some n.bridges[B] := by simp [hB]
  have hxb' : n.bridges[B]? = some n.bridges[B] := by simp [hB]
  generalize n.bridges[B] = b at hxb hxb'
  have hmp : (b.prios.map intV1).length = b.prios.length := by simp
  by_cases c3 : o = tree
  · repeat' (first
    | (apply Stp.go; case a => constructor)
    | refine blk_hit rfl ?_ | refine blk_miss rfl ?_ | refine dnilD (by kernel_rfl) ?_ | refine DW_cond_t rfl ?_ | refine DW_cond_f rfl ?_
    | refine DW_tD rfl (by omega) ?_ | refine DW_fD rfl (by omega) ?_
    | refine dpOff rfl rfl ?_
    | ((first | apply dX rfl | apply dXon rfl rfl | apply dpMay rfl rfl (by intro h; first | trivial | exact ⟨h, trivial⟩ | exact ⟨h, h, trivial⟩ | exact ⟨h, h, h, trivial⟩)); (case h => ((try intro hg); first | exact S_call law6_alive rfl | exact S_ixM rfl rfl (by omega) hxb | exact S_cT rfl rfl (by constructor) (by omega) | exact S_cF rfl rfl (by constructor) (by omega) | exact S_al rfl | exact S_bx rfl rfl | exact S_store rfl rfl rfl rfl rfl rfl | (apply Pu.ok; repeat' (first | rfl | exact .inK (by simp only [InK]; omega) | exact .inK (by simp only [InK]; simp at hg; omega) | exact .wr | constructor | decide | omega)))); (try case hp => constructor))
    | refine dpickAnd rfl rfl rfl rfl rfl ?_ | refine dpickOr rfl rfl rfl rfl rfl ?_
    | fail)
    refine ret1 rfl (by first | exact .inl rfl | exact .inr (flat_of rfl)) ?_
    rfl
  by_cases c4 : o < 0
  · repeat' (first
    | (apply Stp.go; case a => constructor)
    | refine blk_hit rfl ?_ | refine blk_miss rfl ?_ | refine dnilD (by kernel_rfl) ?_ | refine DW_cond_t rfl ?_ | refine DW_cond_f rfl ?_
    | refine DW_tD rfl (by omega) ?_ | refine DW_fD rfl (by omega) ?_
    | refine dpOff rfl rfl ?_
    | ((first | apply dX rfl | apply dXon rfl rfl | apply dpMay rfl rfl (by intro h; first | trivial | exact ⟨h, trivial⟩ | exact ⟨h, h, trivial⟩ | exact ⟨h, h, h, trivial⟩)); (case h => ((try intro hg); first | exact S_call law6_alive rfl | exact S_ixM rfl rfl (by omega) hxb | exact S_cT rfl rfl (by constructor) (by omega) | exact S_cF rfl rfl (by constructor) (by omega) | exact S_al rfl | exact S_bx rfl rfl | exact S_store rfl rfl rfl rfl rfl rfl | (apply Pu.ok; repeat' (first | rfl | exact .inK (by simp only [InK]; omega) | exact .inK (by simp only [InK]; simp at hg; omega) | exact .wr | constructor | decide | omega)))); (try case hp => constructor))
    | refine dpickAnd rfl rfl rfl rfl rfl ?_ | refine dpickOr rfl rfl rfl rfl rfl ?_
    | fail)
    refine ret1 rfl (by first | exact .inl rfl | exact .inr (flat_of rfl)) ?_
    rfl
  by_cases c5 : (b.prios.length : Int) ≤ o
  · repeat' (first
    | (apply Stp.go; case a => constructor)
    | refine blk_hit rfl ?_ | refine blk_miss rfl ?_ | refine dnilD (by kernel_rfl) ?_ | refine DW_cond_t rfl ?_ | refine DW_cond_f rfl ?_
    | refine DW_tD rfl (by omega) ?_ | refine DW_fD rfl (by omega) ?_
    | refine dpOff rfl rfl ?_
    | ((first | apply dX rfl | apply dXon rfl rfl | apply dpMay rfl rfl (by intro h; first | trivial | exact ⟨h, trivial⟩ | exact ⟨h, h, trivial⟩ | exact ⟨h, h, h, trivial⟩)); (case h => ((try intro hg); first | exact S_call law6_alive rfl | exact S_ixM rfl rfl (by omega) hxb | exact S_cT rfl rfl (by constructor) (by omega) | exact S_cF rfl rfl (by constructor) (by omega) | exact S_al rfl | exact S_bx rfl rfl | exact S_store rfl rfl rfl rfl rfl rfl | (apply Pu.ok; repeat' (first | rfl | exact .inK (by simp only [InK]; omega) | exact .inK (by simp only [InK]; simp at hg; omega) | exact .wr | constructor | decide | omega)))); (try case hp => constructor))
    | refine dpickAnd rfl rfl rfl rfl rfl ?_ | refine dpickOr rfl rfl rfl rfl rfl ?_
    | fail)
    refine ret1 rfl (by first | exact .inl rfl | exact .inr (flat_of rfl)) ?_
    rfl
  by_cases c6 : p < 0
  · repeat' (first
    | (apply Stp.go; case a => constructor)
    | refine blk_hit rfl ?_ | refine blk_miss rfl ?_ | refine dnilD (by kernel_rfl) ?_ | refine DW_cond_t rfl ?_ | refine DW_cond_f rfl ?_
    | refine DW_tD rfl (by omega) ?_ | refine DW_fD rfl (by omega) ?_
    | refine dpOff rfl rfl ?_
    | ((first | apply dX rfl | apply dXon rfl rfl | apply dpMay rfl rfl (by intro h; first | trivial | exact ⟨h, trivial⟩ | exact ⟨h, h, trivial⟩ | exact ⟨h, h, h, trivial⟩)); (case h => ((try intro hg); first | exact S_call law6_alive rfl | exact S_ixM rfl rfl (by omega) hxb | exact S_cT rfl rfl (by constructor) (by omega) | exact S_cF rfl rfl (by constructor) (by omega) | exact S_al rfl | exact S_bx rfl rfl | exact S_store rfl rfl rfl rfl rfl rfl | (apply Pu.ok; repeat' (first | rfl | exact .inK (by simp only [InK]; omega) | exact .inK (by simp only [InK]; simp at hg; omega) | exact .wr | constructor | decide | omega)))); (try case hp => constructor))
    | refine dpickAnd rfl rfl rfl rfl rfl ?_ | refine dpickOr rfl rfl rfl rfl rfl ?_
    | fail)
    refine ret1 rfl (by first | exact .inl rfl | exact .inr (flat_of rfl)) ?_
    rfl
  by_cases c7 : 61440 < p
  · repeat' (first
    | (apply Stp.go; case a => constructor)
    | refine blk_hit rfl ?_ | refine blk_miss rfl ?_ | refine dnilD (by kernel_rfl) ?_ | refine DW_cond_t rfl ?_ | refine DW_cond_f rfl ?_
    | refine DW_tD rfl (by omega) ?_ | refine DW_fD rfl (by omega) ?_
    | refine dpOff rfl rfl ?_
    | ((first | apply dX rfl | apply dXon rfl rfl | apply dpMay rfl rfl (by intro h; first | trivial | exact ⟨h, trivial⟩ | exact ⟨h, h, trivial⟩ | exact ⟨h, h, h, trivial⟩)); (case h => ((try intro hg); first | exact S_call law6_alive rfl | exact S_ixM rfl rfl (by omega) hxb | exact S_cT rfl rfl (by constructor) (by omega) | exact S_cF rfl rfl (by constructor) (by omega) | exact S_al rfl | exact S_bx rfl rfl | exact S_store rfl rfl rfl rfl rfl rfl | (apply Pu.ok; repeat' (first | rfl | exact .inK (by simp only [InK]; omega) | exact .inK (by simp only [InK]; simp at hg; omega) | exact .wr | constructor | decide | omega)))); (try case hp => constructor))
    | refine dpickAnd rfl rfl rfl rfl rfl ?_ | refine dpickOr rfl rfl rfl rfl rfl ?_
    | fail)
    refine ret1 rfl (by first | exact .inl rfl | exact .inr (flat_of rfl)) ?_
    rfl
  by_cases c8 : p.tmod 4096 ≠ 0
  · repeat' (first
    | (apply Stp.go; case a => constructor)
    | refine blk_hit rfl ?_ | refine blk_miss rfl ?_ | refine dnilD (by kernel_rfl) ?_ | refine DW_cond_t rfl ?_ | refine DW_cond_f rfl ?_
    | refine DW_tD rfl (by omega) ?_ | refine DW_fD rfl (by omega) ?_
    | refine dpOff rfl rfl ?_
    | ((first | apply dX rfl | apply dXon rfl rfl | apply dpMay rfl rfl (by intro h; first | trivial | exact ⟨h, trivial⟩ | exact ⟨h, h, trivial⟩ | exact ⟨h, h, h, trivial⟩)); (case h => ((try intro hg); first | exact S_call law6_alive rfl | exact S_ixM rfl rfl (by omega) hxb | exact S_cT rfl rfl (by constructor) (by omega) | exact S_cF rfl rfl (by constructor) (by omega) | exact S_al rfl | exact S_bx rfl rfl | exact S_store rfl rfl rfl rfl rfl rfl | (apply Pu.ok; repeat' (first | rfl | exact .inK (by simp only [InK]; omega) | exact .inK (by simp only [InK]; simp at hg; omega) | exact .wr | constructor | decide | omega)))); (try case hp => constructor))
    | refine dpickAnd rfl rfl rfl rfl rfl ?_ | refine dpickOr rfl rfl rfl rfl rfl ?_
    | fail)
    refine ret1 rfl (by first | exact .inl rfl | exact .inr (flat_of rfl)) ?_
    rfl
  have hpb : ¬ prioBad p := by unfold prioBad; omega
  have c8' : p.tmod 4096 = 0 := Decidable.not_not.1 c8
  obtain ⟨o, rfl⟩ : ∃ O : Nat, o = (O : Int) := ⟨o.toNat, by omega⟩
  have hO : o < b.prios.length := by omega
  have hp := plan_Plan n ht tree
  rcases planA_cases ht tree with ⟨e, i, he, hpa⟩ | ⟨h, hw, t0, t1, hpa⟩
  · rw [hpa] at hp
    have he' : decide (e ≠ 0) = true := decide_eq_true he
    repeat' (first
    | (apply Stp.go; case a => constructor)
    | refine blk_hit rfl ?_ | refine blk_miss rfl ?_ | refine dnilD (by kernel_rfl) ?_ | refine DW_cond_t rfl ?_ | refine DW_cond_f rfl ?_
    | refine DW_tD rfl (by omega) ?_ | refine DW_fD rfl (by omega) ?_
    | refine dpOff rfl rfl ?_
    | ((first | apply dX rfl | apply dXon rfl rfl | apply dpMay rfl rfl (by intro h; first | trivial | exact ⟨h, trivial⟩ | exact ⟨h, h, trivial⟩ | exact ⟨h, h, h, trivial⟩)); (case h => ((try intro hg); first | exact S_call law6_alive rfl | exact S_ixM rfl rfl (by omega) hxb | exact S_call hp rfl | exact as_bool (S_neq rfl rfl) he' | exact S_cT rfl rfl (by constructor) (by omega) | exact S_cF rfl rfl (by constructor) (by omega) | exact S_al rfl | exact S_bx rfl rfl | exact S_store rfl rfl rfl rfl rfl rfl | (apply Pu.ok; repeat' (first | rfl | exact .inK (by simp only [InK]; omega) | exact .inK (by simp only [InK]; simp at hg; omega) | exact .wr | constructor | decide | omega)))); (try case hp => constructor))
    | refine dpickAnd rfl rfl rfl rfl rfl ?_ | refine dpickOr rfl rfl rfl rfl rfl ?_
    | fail)
    refine ret1 rfl (by first | exact .inl rfl | exact .inr (flat_of rfl)) ?_
    rfl
  rw [hpa] at hp
  obtain ⟨tree, rfl⟩ : ∃ T : Nat, tree = (T : Int) := ⟨tree.toNat, by omega⟩
  have hmg := prioN_good h B o hpb
  have hmt := prioN_typed ht B o p
  have hma : planA (prioN n B o p) tree = (planF n tree, (0, 0)) := by
    rcases planA_cases hmt tree with ⟨e, i, he, hpb⟩ | ⟨_, _, _, _, hpb⟩
    · exfalso
      have hw2 : (prioN n B o p).wrong.1 = 0 := (Net.wrong_iff hmt).2 ⟨hmg, fun c hc => by
        rcases modify_mem hc with hc | ⟨d, hd, rfl⟩
        · exact ((Net.wrong_iff ht).1 (by rw [hw])).2 c hc
        · exact ((Net.wrong_iff ht).1 (by rw [hw])).2 d (List.mem_of_getElem? hd)⟩
      with_unfolding_all
        unfold planA at hpb
        rw [if_neg (by omega), if_neg (by omega)] at hpb
        simp only [Prod.mk.injEq] at hpb
        exact he hpb.2.1.symm
    · rw [hpb, prioN_plan h (by omega)]
  have hp2 := plan_Plan (prioN n B o p) hmt tree
  rw [hma] at hp2
  have hnb := h.nb
  have hbo := h.br b (List.mem_of_getElem? hxb')
  have hbn := hbo.n
  have hne : n.bridges.map bridgeV ≠ [] := by intro hx; rw [hx] at hmb; simp at hmb; omega
  have hso := ref6_Same (planF n tree)
  repeat' (first
    | refine DW_mark 69 (bx := .row 1 false false 5 (n.bridges.map bridgeV)) rfl ?_
    | (apply dt rfl; case h => exact S_litO (els := []) _ rfl rfl rfl rfl rfl)
    | (apply Stp.go; case a => constructor)
    | refine blk_hit rfl ?_ | refine blk_miss rfl ?_ | refine dnilD (by kernel_rfl) ?_ | refine DW_cond_t rfl ?_ | refine DW_cond_f rfl ?_
    | refine DW_tD rfl (by omega) ?_ | refine DW_fD rfl (by omega) ?_
    | refine dpOff rfl rfl ?_
    | ((first | apply dX rfl | apply dXon rfl rfl | apply dpMay rfl rfl (by intro h; first | trivial | exact ⟨h, trivial⟩ | exact ⟨h, h, trivial⟩ | exact ⟨h, h, h, trivial⟩)); (case h => ((try intro hg); first | exact S_call law6_alive rfl | exact S_ixM rfl rfl (by omega) hxb | exact S_call hp rfl | exact S_appM (f := bridgeV) (us := []) (bs := n.bridges) rfl rfl (.dat _ _) rfl rfl (.inl rfl) rfl (by simp only [List.length_nil]; omega) | exact S_cT rfl rfl (by constructor) (by omega) | exact S_cF rfl rfl (by constructor) (by omega) | exact S_al rfl | exact S_bx rfl rfl | exact S_store rfl rfl rfl rfl rfl rfl | (apply Pu.ok; repeat' (first | rfl | exact .inK (by simp only [InK]; omega) | exact .inK (by simp only [InK]; simp at hg; omega) | exact .wr | constructor | decide | omega)))); (try case hp => constructor))
    | refine dpickAnd rfl rfl rfl rfl rfl ?_ | refine dpickOr rfl rfl rfl rfl rfl ?_
    | fail)
  intro _
  refine DW_cellsOf 69 rfl (by decide) hne ?_
  intro K
  refine DW_sw (s' := ⟨[(1, .dat false (.int .i64 tree)), (2, .dat false (.int .i64 B)), (3, .dat false (.int .i64 o)), (4, .dat false (.int .i64 p)), (5, .ptr 5 0), (11, .dat true (.slice ((planF n tree).map Place.cells))), (12, .ptr 12 0), (13, .ptr 13 0)],
    [(69, .cells false false ((n.bridges.map bridgeV).flatten.map (D.dat false) ++ List.replicate K D.any)), (13, .cells false true [.sl 69 n.bridges.length, .dat false (.slice (n.links.map linkV))]), (12, .cells false true [.dat true (.int .i64 0), .dat true (.int .i64 0)]), (5, .cells false true (n.cells.map (.dat false)))], 110⟩) ⟨rfl, mem_eqL rfl rfl (by intro g hg; simp only [List.map_cons, List.map_nil, List.mem_cons, List.not_mem_nil, or_false] at hg; rcases hg with rfl | rfl | rfl | rfl <;> rfl) rfl, by repeat' (first | exact slots_nil | exact .inl rfl | exact .inr (.inl ⟨_, rfl, rfl⟩) | apply slots_cons)⟩ ?_
  have hcs : ∀ (i j : Nat) (u : Bridge) (x : V), n.bridges[i]? = some u → (bridgeV u)[j]? = some x → ((n.bridges.map bridgeV).flatten.map (D.dat false) ++ List.replicate K D.any)[i * 5 + j]? = some (.dat false x) := fun i j u x h1 h2 => rowcells_get h1 h2
  generalize (n.bridges.map bridgeV).flatten.map (D.dat false) ++ List.replicate K D.any = CS at hcs
  have hlt : B * 5 + 1 < CS.length := (List.getElem?_eq_some_iff.1 (hcs B 1 b _ hxb' rfl)).1
  have hble : Nat.ble (B * 5 + 1 + 1) CS.length = true := by rw [Nat.ble_eq]; exact hlt
  have hld : (splice CS (B * 5 + 1) [D.own 77 1 0 b.prios.length])[B * 5 + 1]? = some (D.own 77 1 0 b.prios.length) := by
    rw [splice_get (by simp only [List.length_singleton]; omega), if_pos (by simp)]; simp
  have hpo : b.prios[(o : Int).toNat]? = some b.prios[o] := by simp [hO]
  have key : ∀ (i j : Nat) (e : List V) (x : V), ((prioN n B o p).bridges.map bridgeV)[i]? = some e → e[j]? = some x → ¬ (i = B ∧ j = 1) → ∃ u, n.bridges[i]? = some u ∧ (bridgeV u)[j]? = some x := fun i j e x he hx hne => by
    rw [List.getElem?_map] at he
    obtain ⟨u, hu, rfl⟩ := Option.map_eq_some_iff.1 he
    have hu : (n.bridges.modify B _)[i]? = some u := hu
    rw [modify_atT] at hu
    by_cases hi : B = i
    · subst hi
      rw [if_pos rfl, hxb', Option.map_some, Option.some.injEq] at hu
      subst hu
      refine ⟨b, hxb', ?_⟩
      match j, hx, hne with
      | 0, hx, _ => exact hx
      | 1, _, hne => exact absurd ⟨rfl, rfl⟩ hne
      | j + 2, hx, _ => exact hx
    · rw [if_neg hi] at hu
      exact ⟨u, hu, hx⟩
  have hsp : ∀ (i j : Nat) (e : List V) (x : V), ((prioN n B o p).bridges.map bridgeV)[i]? = some e → e[j]? = some x → ¬ (i = B ∧ j = 1) → (splice CS (B * 5 + 1) [D.own 77 1 0 b.prios.length])[i * 5 + j]? = some (.dat false x) := fun i j e x he hx hne => by
    obtain ⟨u, hu, hxu⟩ := key i j e x he hx hne
    have hj : j < 5 := (List.getElem?_eq_some_iff.1 hxu).1
    rw [splice_get (by simp only [List.length_singleton]; omega), if_neg (by simp only [List.length_singleton]; omega)]
    exact hcs i j u x hu hxu
  have hcl : ∀ m' : Mem, m'.at 77 = .row 1 false true 1 ((b.prios.set o p).map intV1) → m'.at 69 = .cells false false (splice CS (B * 5 + 1) [D.own 77 1 0 b.prios.length]) →
      LndL m' [.aggd [.sl 69 n.bridges.length, .dat false (.slice (n.links.map linkV))], .dat false (.int .i64 tree)] [(prioN n B o p).v, .int .i64 tree] := fun m' g2 g1 => by
    refine ⟨.aggd rfl (fun j d x hd hx => ?_), .asb rfl, trivial⟩
    match j, hd, hx with
    | 0, hd, hx =>
      simp only [List.getElem?_cons_zero, Option.some.injEq] at hd
      have hx : some (V.slice ((prioN n B o p).bridges.map bridgeV)) = some x := hx
      injection hx with hx
      subst hd hx
      refine .sl (sz := 5) (fun i j => if i = B ∧ j = 1 then .own 77 1 0 b.prios.length else ((splice CS (B * 5 + 1) [D.own 77 1 0 b.prios.length])[i * 5 + j]?).getD .any) g1 (by simp [prioN]) (fun i e he => ?_) (fun i j e x he hx => ?_) (fun i j e x he hx => ?_) (fun i j e x he hx => ?_)
      · rw [List.getElem?_map] at he
        obtain ⟨a, _, rfl⟩ := Option.map_eq_some_iff.1 he
        rfl
      · rw [List.getElem?_map] at he
        obtain ⟨a, _, rfl⟩ := Option.map_eq_some_iff.1 he
        exact CellsI.one (f := bridgeV) a x (List.mem_of_getElem? hx)
      · by_cases hij : i = B ∧ j = 1
        · rw [if_pos hij, hij.1, hij.2]; exact hld
        · rw [if_neg hij, hsp i j e x he hx hij]; rfl
      · by_cases hij : i = B ∧ j = 1
        · rw [if_pos hij]
          obtain ⟨rfl, rfl⟩ := hij
          have hx' : x = .slice ((b.prios.set o p).map intV1) := by
            rw [List.getElem?_map] at he
            obtain ⟨u, hu, rfl⟩ := Option.map_eq_some_iff.1 he
            have hu : (n.bridges.modify i _)[i]? = some u := hu
            rw [modify_atT, if_pos rfl, hxb', Option.map_some, Option.some.injEq] at hu
            subst hu
            have hx : some (V.slice ((b.prios.set o p).map intV1)) = some x := hx
            injection hx with hx; exact hx.symm
          subst hx'
          refine .asb ?_
          simp only [asB, asB0, g2]
          show some (V.slice ((((b.prios.set o p).map intV1).drop 0).take b.prios.length)) = _
          rw [whole_eq (by simp)]
        · rw [if_neg hij, hsp i j e x he hx hij]
          exact .asb rfl
    | 1, hd, hx =>
      simp only [List.getElem?_cons_succ, List.getElem?_cons_zero, Option.some.injEq] at hd
      have hx : some (V.slice (n.links.map linkV)) = some x := hx
      injection hx with hx
      subst hd hx
      exact .asb rfl
    | j + 2, hd, _ => simp at hd
  repeat' (first
    | (apply dt rfl; case h => exact S_litO (els := []) _ rfl rfl rfl rfl rfl)
    | (apply Stp.go; case a => constructor)
    | refine blk_hit rfl ?_ | refine blk_miss rfl ?_ | refine dnilD (by kernel_rfl) ?_ | refine DW_cond_t rfl ?_ | refine DW_cond_f rfl ?_
    | refine DW_tD rfl (by omega) ?_ | refine DW_fD rfl (by omega) ?_
    | refine dpOff rfl rfl ?_
    | ((first | apply dX rfl | apply dXon rfl rfl | apply dpMay rfl rfl (by intro h; first | trivial | exact ⟨h, trivial⟩ | exact ⟨h, h, trivial⟩ | exact ⟨h, h, h, trivial⟩)); (case h => ((try intro hg); first | exact S_ixM rfl rfl (by omega) hxb | exact S_appM (f := intV1) (us := []) (bs := b.prios) rfl rfl (.dat _ _) rfl rfl (.inr ⟨rfl, inferInstance⟩) rfl (by simp only [List.length_nil]; omega) | exact S_ix_sl rfl rfl (by omega) (by omega) | exact S_store rfl rfl rfl rfl rfl hble | exact S_load_ptr (d := .own 77 1 0 b.prios.length) rfl rfl hld | exact S_ixO rfl rfl rfl (by omega) (by omega) | exact S_storeM (f := intV1) (us := b.prios) (a := p) rfl rfl hpo rfl rfl (.inr ⟨rfl, inferInstance⟩) rfl rfl | exact S_callL [69, 77] hp2 (fun m' hh => hcl m' (hh 77 (by decide)) (hh 69 (by decide))) | exact S_call hso rfl | exact S_cT rfl rfl (by constructor) (by omega) | exact S_cF rfl rfl (by constructor) (by omega) | exact S_al rfl | exact S_bx rfl rfl | exact S_store rfl rfl rfl rfl rfl rfl | (apply Pu.ok; repeat' (first | rfl | exact .inK (by simp only [InK]; omega) | exact .inK (by simp only [InK]; simp at hg; omega) | exact .wr | constructor | decide | omega)))); (try case hp => constructor))
    | refine dpickAnd rfl rfl rfl rfl rfl ?_ | refine dpickOr rfl rfl rfl rfl rfl ?_
    | fail)
  refine ret1 rfl (by first | exact .inl rfl | exact .inr (flat_of rfl)) ?_
  rfl
end Go.Proofs.Ytkppkgahdoglpaa
