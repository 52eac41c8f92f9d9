/- What vec.Choose chooses: the least of the offers that may be taken. -/
import Derived.Test.YtfmaehhloffabaaycPlI
import Derived.Test.YtfmaehhloffabaaybFam
import Derived.Test.YtfmaehhloffabaaybInp
import Derived.Test.YtfmaehhloffabaaybLnd
namespace Go.Proofs.Ytfmaehhloffabaa
open Go.RowKit
attribute [local irreducible] SStep DW DWin DOps thenQ inBlk loopQ retQ retQG FnF FnG Wk IntKind.wrap IntKind.andI IntKind.orI IntKind.xorI IntKind.andNotI IntKind.shlI IntKind.shrI Region.wrong Bridge.wrong Link.wrong Bridge.prio identR
theorem prio_at {b : Bridge} {t : Nat} {p : Int} (h : b.prios[t]? = some p) : b.prio (t : Int) = p := by
  unfold Bridge.prio; rw [if_pos (by omega), Int.toNat_natCast, h]; rfl
theorem prio_no {b : Bridge} {t : Int} (h : t < 0 ∨ b.prios.length ≤ t) : b.prio t = 32768 := by
  unfold Bridge.prio
  split
  · rw [List.getElem?_eq_none (by omega)]; rfl
  · rfl
set_option maxHeartbeats 1000000 in
theorem plan_Ident (b : Bridge) (hb : b.ok) (t : Int) : FnF Try.prog 11 [.agg (bridgeV b), .int .i64 t] (.int .u64 (b.id t)) := by
  refine fnF_of Try.func11 rfl rfl rfl ?_
  simp only [envOf]
  have hml : (b.prios.map intV1).length = b.prios.length := by simp
  obtain ⟨p0, p1⟩ := Bridge.prio_in hb t
  by_cases h0 : 0 ≤ t
  · obtain ⟨t, rfl⟩ : ∃ k : Nat, t = (k : Int) := ⟨t.toNat, by omega⟩
    by_cases h1 : t < b.prios.length
    · have hx : b.prios[((t : Nat) : Int).toNat]? = some b.prios[t] := by simp [h1]
      have hp := prio_at (b := b) (t := t) hx
      rw [← hp] at hx
      have e1 := shl_48 p0 p1
      have e2 := or_48 p0 p1 hb.a0 hb.a1
      unfold Bridge.id
      generalize b.prio (t : Int) = p at hx p0 p1 e1 e2
      repeat' (first | (apply Wa; constructor) | refine Wb rfl ?_ | refine Wc rfl ?_ | refine Wd (by kernel_rfl) ?_ | refine We rfl ?_ | refine Wf rfl ?_ | refine Wi rfl rfl ?_ | ((first | apply dX rfl | apply Da rfl rfl | apply Db rfl rfl (by intro h; first | trivial | exact ⟨h, trivial⟩ | exact ⟨h, h, trivial⟩)); (focus ((try intro hg); first | exact as_bool (S_geq rfl rfl) (decide_eq_true (by omega : (0 : Int) ≤ (t : Int))) | exact as_bool (S_lss rfl rfl) (decide_eq_true (by omega : (t : Int) < ((b.prios.map intV1).length : Int))) | exact S_ixM rfl rfl (by omega) hx | exact I_toInt rfl (by simp only [InK]; omega) | exact as_int (S_shl rfl rfl (by decide)) e1 | exact as_int (S_or rfl rfl) e2 | exact S_al rfl | exact S_bx rfl rfl | exact S_store rfl rfl rfl rfl rfl rfl | (apply Pu.ok; repeat' (first | rfl | exact .inK (by simp only [InK]; omega) | exact .wr | constructor | decide | omega)))); constructor) | refine Pa rfl rfl rfl rfl rfl ?_ | refine Po rfl rfl rfl rfl rfl ?_ | fail)
      refine ret1 rfl (.inl rfl) ?_
      rfl
    · have hp := prio_no (b := b) (t := (t : Int)) (by omega)
      rw [hp] at p0 p1
      have e1 := shl_48 p0 p1
      have e2 := or_48 p0 p1 hb.a0 hb.a1
      unfold Bridge.id
      rw [hp]
      repeat' (first | (apply Wa; constructor) | refine Wb rfl ?_ | refine Wc rfl ?_ | refine Wd (by kernel_rfl) ?_ | refine We rfl ?_ | refine Wf rfl ?_ | refine Wi rfl rfl ?_ | ((first | apply dX rfl | apply Da rfl rfl | apply Db rfl rfl (by intro h; first | trivial | exact ⟨h, trivial⟩ | exact ⟨h, h, trivial⟩)); (focus ((try intro hg); first | exact as_bool (S_geq rfl rfl) (decide_eq_true (by omega : (0 : Int) ≤ (t : Int))) | exact as_bool (S_lss rfl rfl) (decide_eq_false (by omega : ¬ (t : Int) < ((b.prios.map intV1).length : Int))) | exact I_toInt rfl (by simp only [InK]; omega) | exact as_int (S_shl rfl rfl (by decide)) e1 | exact as_int (S_or rfl rfl) e2 | exact S_al rfl | exact S_bx rfl rfl | exact S_store rfl rfl rfl rfl rfl rfl | (apply Pu.ok; repeat' (first | rfl | exact .inK (by simp only [InK]; omega) | exact .wr | constructor | decide | omega)))); constructor) | refine Pa rfl rfl rfl rfl rfl ?_ | refine Po rfl rfl rfl rfl rfl ?_ | fail)
      refine ret1 rfl (.inl rfl) ?_
      rfl
  · have hp := prio_no (b := b) (t := t) (by omega)
    rw [hp] at p0 p1
    have e1 := shl_48 p0 p1
    have e2 := or_48 p0 p1 hb.a0 hb.a1
    unfold Bridge.id
    rw [hp]
    repeat' (first | (apply Wa; constructor) | refine Wb rfl ?_ | refine Wc rfl ?_ | refine Wd (by kernel_rfl) ?_ | refine We rfl ?_ | refine Wf rfl ?_ | refine Wi rfl rfl ?_ | ((first | apply dX rfl | apply Da rfl rfl | apply Db rfl rfl (by intro h; first | trivial | exact ⟨h, trivial⟩ | exact ⟨h, h, trivial⟩)); (focus ((try intro hg); first | exact as_bool (S_geq rfl rfl) (decide_eq_false h0) | exact I_toInt rfl (by simp only [InK]; omega) | exact as_int (S_shl rfl rfl (by decide)) e1 | exact as_int (S_or rfl rfl) e2 | exact S_al rfl | exact S_bx rfl rfl | exact S_store rfl rfl rfl rfl rfl rfl | (apply Pu.ok; repeat' (first | rfl | exact .inK (by simp only [InK]; omega) | exact .wr | constructor | decide | omega)))); constructor) | refine Pa rfl rfl rfl rfl rfl ?_ | refine Po rfl rfl rfl rfl rfl ?_ | fail)
    refine ret1 rfl (.inl rfl) ?_
    rfl
set_option maxHeartbeats 1000000 in
theorem plan_Regions (n : Net) (hb : ∀ b ∈ n.bridges, b.region.right) (hl : n.bridges.length ≤ 12) : FnF Try.prog 19 [.rp n.cells] (.slice ((idsR n.bridges).map bytesR)) := by
  refine fnF_of Try.func19 rfl rfl rfl ?_
  simp only [envOf]
  have hml : (n.bridges.map bridgeV).length = n.bridges.length := by simp
  repeat' (first | (apply Wa; constructor) | refine Wb rfl ?_ | refine Wc rfl ?_ | refine Wd (by kernel_rfl) ?_ | refine We rfl ?_ | refine Wf rfl ?_ | refine Wi rfl rfl ?_ | ((first | apply dX rfl | apply Da rfl rfl | apply Db rfl rfl (by intro h; first | trivial | exact ⟨h, trivial⟩ | exact ⟨h, h, trivial⟩)); (focus ((try intro hg); first | exact S_al rfl | exact S_bx rfl rfl | exact S_store rfl rfl rfl rfl rfl rfl | (apply Pu.ok; repeat' (first | rfl | exact .inK (by simp only [InK]; omega) | exact .wr | constructor | decide | omega)))); constructor) | refine Pa rfl rfl rfl rfl rfl ?_ | refine Po rfl rfl rfl rfl rfl ?_ | fail)
  refine DW_loop (fun p : Nat × List (List UInt8) => ⟨[(3, .own 3 0 0 p.2.length), (9, .dat false (.slice (n.bridges.map bridgeV))), (10, .dat true (.int .i64 (n.bridges.map bridgeV).length)), (11, .dat true (.int .i64 p.1))], [(3, .row 0 false true 1 (p.2.map bytesR))], 23⟩)
    (fun p => p.1 ≤ n.bridges.length ∧ p.2 = (idsR n.bridges).take p.1) (fun p => n.bridges.length - p.1) (0, []) ⟨Nat.zero_le _, rfl⟩
    (Wk_g (fun g => if g = 3 then none else some g) rfl rfl (by (repeat' (first | exact trivial | rfl | exact listLe_map _ | exact ⟨_, rfl, .inl rfl⟩ | exact ⟨_, rfl, .inr (.inl rfl)⟩ | exact ⟨_, rfl, .inr (.inr rfl)⟩ | refine ⟨_, _, rfl, rfl, ?_⟩ | exact ⟨_, rfl, rfl⟩ | exact ⟨_, _, _, _, rfl, rfl, rfl⟩ | exact ⟨_, rfl⟩ | exact ⟨_, _, rfl⟩ | apply And.intro)))) (fun p hR => ?_)
  obtain ⟨k, us⟩ := p
  obtain ⟨hk, hus⟩ := hR
  simp only at hk hus
  dsimp only
  have hul : us.length = k := by rw [hus]; simp [idsR]; omega
  by_cases hlt : k < n.bridges.length
  · have hx : n.bridges[(k : Int).toNat]? = some n.bridges[k] := by simp [hlt]
    have hr := hb n.bridges[k] (List.getElem_mem hlt)
    have hnext : us ++ [identR n.bridges[k].region] = (idsR n.bridges).take (k + 1) := by
      rw [hus, List.take_add_one]; simp [idsR, hlt]
    generalize n.bridges[k] = b at hx hr hnext
    have hi := region_Ident b.region hr
    repeat' (first | (apply Wa; constructor) | refine Wb rfl ?_ | refine Wc rfl ?_ | refine Wd (by kernel_rfl) ?_ | refine We rfl ?_ | refine Wf rfl ?_ | refine Wi rfl rfl ?_ | ((first | apply dX rfl | apply Da rfl rfl | apply Db rfl rfl (by intro h; first | trivial | exact ⟨h, trivial⟩ | exact ⟨h, h, trivial⟩)); (focus ((try intro hg); first | exact as_bool (S_lss rfl rfl) (decide_eq_true (by omega : (k : Int) < ((n.bridges.map bridgeV).length : Int))) | exact S_ixM rfl rfl (by omega) hx | exact S_call hi rfl | exact S_appM (f := bytesR) (us := us) (bs := [identR b.region]) rfl rfl (.dat _ _) rfl rfl (.inl rfl) rfl (by simp only [List.length_singleton]; omega) | exact S_al rfl | exact S_bx rfl rfl | exact S_store rfl rfl rfl rfl rfl rfl | (apply Pu.ok; repeat' (first | rfl | exact .inK (by simp only [InK]; omega) | exact .wr | constructor | decide | omega)))); constructor) | refine Pa rfl rfl rfl rfl rfl ?_ | refine Po rfl rfl rfl rfl rfl ?_ | fail)
    exact loop_again (k + 1, us ++ [identR b.region]) ⟨hlt, hnext⟩ (by simp only; omega) (Wk_g some rfl rfl (by (repeat' (first | exact trivial | rfl | exact listLe_map _ | exact ⟨_, rfl, .inl rfl⟩ | exact ⟨_, rfl, .inr (.inl rfl)⟩ | exact ⟨_, rfl, .inr (.inr rfl)⟩ | refine ⟨_, _, rfl, rfl, ?_⟩ | exact ⟨_, rfl, rfl⟩ | exact ⟨_, _, _, _, rfl, rfl, rfl⟩ | exact ⟨_, rfl⟩ | exact ⟨_, _, rfl⟩ | apply And.intro))))
  · have he : us = idsR n.bridges := by rw [hus]; exact List.take_of_length_le (by simp [idsR]; omega)
    refine DW_seal 3 rfl rfl (by simp) ?_
    repeat' (first | (apply Wa; constructor) | refine Wb rfl ?_ | refine Wc rfl ?_ | refine Wd (by kernel_rfl) ?_ | refine We rfl ?_ | refine Wf rfl ?_ | refine Wi rfl rfl ?_ | ((first | apply dX rfl | apply Da rfl rfl | apply Db rfl rfl (by intro h; first | trivial | exact ⟨h, trivial⟩ | exact ⟨h, h, trivial⟩)); (focus ((try intro hg); first | exact as_bool (S_lss rfl rfl) (decide_eq_false (by omega : ¬ (k : Int) < ((n.bridges.map bridgeV).length : Int))) | exact S_al rfl | exact S_bx rfl rfl | exact S_store rfl rfl rfl rfl rfl rfl | (apply Pu.ok; repeat' (first | rfl | exact .inK (by simp only [InK]; omega) | exact .wr | constructor | decide | omega)))); constructor) | refine Pa rfl rfl rfl rfl rfl ?_ | refine Po rfl rfl rfl rfl rfl ?_ | fail)
    refine ret1 rfl (.inl rfl) ?_
    rw [← he]
set_option maxHeartbeats 1000000 in
theorem plan_offers (ends : List End) (says : List Vec) (hl : ends.length ≤ 1000) (ho : ∀ e ∈ ends, 0 ≤ e.other ∧ e.other < says.length) : FnF Try.prog 22 [.slice (ends.map endV), .slice (says.map Vec.cells)] (offers (offersOf ends says)) := by
  refine fnF_of Try.func22 rfl rfl rfl ?_
  simp only [envOf, offers]
  have hml : (ends.map endV).length = ends.length := by simp
  have hms : (says.map Vec.cells).length = says.length := by simp
  repeat' (first | (apply Wa; constructor) | refine Wb rfl ?_ | refine Wc rfl ?_ | refine Wd (by kernel_rfl) ?_ | refine We rfl ?_ | refine Wf rfl ?_ | refine Wi rfl rfl ?_ | ((first | apply dX rfl | apply Da rfl rfl | apply Db rfl rfl (by intro h; first | trivial | exact ⟨h, trivial⟩ | exact ⟨h, h, trivial⟩)); (focus ((try intro hg); first | exact S_al rfl | exact S_bx rfl rfl | exact S_store rfl rfl rfl rfl rfl rfl | (apply Pu.ok; repeat' (first | rfl | exact .inK (by simp only [InK]; omega) | exact .wr | constructor | decide | omega)))); constructor) | refine Pa rfl rfl rfl rfl rfl ?_ | refine Po rfl rfl rfl rfl rfl ?_ | fail)
  refine DW_loop (fun p : Nat × List Offer => ⟨[(1, .dat false (.slice (says.map Vec.cells))), (5, .own 5 0 0 p.2.length), (9, .dat false (.slice (ends.map endV))), (10, .dat true (.int .i64 (ends.map endV).length)), (11, .dat true (.int .i64 p.1))], [(5, .row 0 false true 7 (p.2.map Offer.cells))], 34⟩)
    (fun p => p.1 ≤ ends.length ∧ p.2 = offersOf (ends.take p.1) says) (fun p => ends.length - p.1) (0, []) ⟨Nat.zero_le _, rfl⟩
    (Wk_g (fun g => if g = 5 then none else some g) rfl rfl (by (repeat' (first | exact trivial | rfl | exact listLe_map _ | exact ⟨_, rfl, .inl rfl⟩ | exact ⟨_, rfl, .inr (.inl rfl)⟩ | exact ⟨_, rfl, .inr (.inr rfl)⟩ | refine ⟨_, _, rfl, rfl, ?_⟩ | exact ⟨_, rfl, rfl⟩ | exact ⟨_, _, _, _, rfl, rfl, rfl⟩ | exact ⟨_, rfl⟩ | exact ⟨_, _, rfl⟩ | apply And.intro)))) (fun p hR => ?_)
  obtain ⟨k, us⟩ := p
  obtain ⟨hk, hus⟩ := hR
  simp only at hk hus
  dsimp only
  have hul : us.length = k := by rw [hus]; simp [offersOf]; omega
  by_cases hlt : k < ends.length
  · have hx : ends[(k : Int).toNat]? = some ends[k] := by simp [hlt]
    have hr := ho ends[k] (List.getElem_mem hlt)
    have hnext : us ++ [offerOf says ends[k]] = offersOf (ends.take (k + 1)) says := by
      rw [hus, List.take_add_one, List.getElem?_eq_getElem hlt]; unfold offersOf; rw [List.map_append]; rfl
    generalize ends[k] = e at hx hr hnext
    have hy : says[e.other.toNat]? = some (says[e.other.toNat]'(by omega)) := List.getElem?_eq_getElem (by omega)
    have hoe : offerOf says e = ⟨e.port, e.cost, 0, { (says[e.other.toNat]'(by omega)) with port := e.oport }⟩ := by unfold offerOf; rw [hy]; rfl
    generalize says[e.other.toNat]'(by omega) = v at hy hoe
    repeat' (first | (apply Wa; constructor) | refine Wb rfl ?_ | refine Wc rfl ?_ | refine Wd (by kernel_rfl) ?_ | refine We rfl ?_ | refine Wf rfl ?_ | refine Wi rfl rfl ?_ | ((first | apply dX rfl | apply Da rfl rfl | apply Db rfl rfl (by intro h; first | trivial | exact ⟨h, trivial⟩ | exact ⟨h, h, trivial⟩)); (focus ((try intro hg); first | exact as_bool (S_lss rfl rfl) (decide_eq_true (by omega : (k : Int) < ((ends.map endV).length : Int))) | exact S_ixM rfl rfl (by omega) hx | exact S_ixM rfl rfl hr.1 hy | exact S_appM (f := Offer.cells) (us := us) (bs := [offerOf says e]) rfl rfl (.dat _ _) (by rw [hoe]; rfl) rfl (.inr ⟨rfl, inferInstance⟩) rfl (by simp only [List.length_singleton]; omega) | exact S_al rfl | exact S_bx rfl rfl | exact S_store rfl rfl rfl rfl rfl rfl | (apply Pu.ok; repeat' (first | rfl | exact .inK (by simp only [InK]; omega) | exact .wr | constructor | decide | omega)))); constructor) | refine Pa rfl rfl rfl rfl rfl ?_ | refine Po rfl rfl rfl rfl rfl ?_ | fail)
    exact loop_again (k + 1, us ++ [offerOf says e]) ⟨hlt, hnext⟩ (by simp only; omega) (Wk_g some rfl rfl (by (repeat' (first | exact trivial | rfl | exact listLe_map _ | exact ⟨_, rfl, .inl rfl⟩ | exact ⟨_, rfl, .inr (.inl rfl)⟩ | exact ⟨_, rfl, .inr (.inr rfl)⟩ | refine ⟨_, _, rfl, rfl, ?_⟩ | exact ⟨_, rfl, rfl⟩ | exact ⟨_, _, _, _, rfl, rfl, rfl⟩ | exact ⟨_, rfl⟩ | exact ⟨_, _, rfl⟩ | apply And.intro))))
  · have he : us = offersOf ends says := by rw [hus, List.take_of_length_le (by omega)]
    refine DW_seal 5 rfl rfl (by simp) ?_
    repeat' (first | (apply Wa; constructor) | refine Wb rfl ?_ | refine Wc rfl ?_ | refine Wd (by kernel_rfl) ?_ | refine We rfl ?_ | refine Wf rfl ?_ | refine Wi rfl rfl ?_ | ((first | apply dX rfl | apply Da rfl rfl | apply Db rfl rfl (by intro h; first | trivial | exact ⟨h, trivial⟩ | exact ⟨h, h, trivial⟩)); (focus ((try intro hg); first | exact as_bool (S_lss rfl rfl) (decide_eq_false (by omega : ¬ (k : Int) < ((ends.map endV).length : Int))) | exact S_al rfl | exact S_bx rfl rfl | exact S_store rfl rfl rfl rfl rfl rfl | (apply Pu.ok; repeat' (first | rfl | exact .inK (by simp only [InK]; omega) | exact .wr | constructor | decide | omega)))); constructor) | refine Pa rfl rfl rfl rfl rfl ?_ | refine Po rfl rfl rfl rfl rfl ?_ | fail)
    refine ret1 rfl (.inl rfl) ?_
    rw [← he]
end Go.Proofs.Ytfmaehhloffabaa
namespace Go.Proofs.Ytfmaehhloffabaa
open Go.RowKit
def liveB (bs : List Bridge) (l : Link) : Bool := l.up && decide ((idsR bs)[l.a.toNat]? = (idsR bs)[l.b.toNat]?)
def liveL (n : Net) : List Link := n.links.filter (liveB n.bridges)
def rawE (ls : List Link) (i : Nat) : List End := ls.flatMap (endAt i)
def famX (nb : Nat) (ls : List Link) : List (List End) := (List.range nb).map (rawE ls)
def sortE (r : List End) : List End := r.mergeSort fun x y => decide (x.port ≤ y.port)
def endsOf (n : Net) (i : Nat) : List End := sortE (rawE (liveL n) i)
structure Link.ok (nb : Nat) (l : Link) : Prop where
  a0 : 0 ≤ l.a
  a1 : l.a < nb
  b0 : 0 ≤ l.b
  b1 : l.b < nb
  ne : l.a ≠ l.b
  pa : 1 ≤ l.pa ∧ l.pa ≤ 30
  pb : 1 ≤ l.pb ∧ l.pb ≤ 30
  c : 1 ≤ l.cost ∧ l.cost ≤ 200000
theorem famX_len (nb : Nat) (ls : List Link) : (famX nb ls).length = nb := by simp [famX]
theorem famX_get {nb : Nat} {ls : List Link} {i : Nat} (h : i < nb) : (famX nb ls)[i]? = some (rawE ls i) := by simp [famX, h]
theorem famX_nil (nb : Nat) : famX nb [] = List.replicate nb [] := by
  apply List.ext_getElem?
  intro i
  by_cases h : i < nb
  · rw [famX_get h, List.getElem?_replicate, if_pos h]; rfl
  · rw [List.getElem?_eq_none (by rw [famX_len]; omega), List.getElem?_eq_none (by rw [List.length_replicate]; omega)]
theorem rawE_app (ls : List Link) (l : Link) (i : Nat) : rawE (ls ++ [l]) i = rawE ls i ++ endAt i l := by
  unfold rawE; rw [List.flatMap_append]; simp
theorem famX_step {nb : Nat} {ls : List Link} {l : Link} (h : l.ok nb) :
    ((famX nb ls).set l.a.toNat (rawE ls l.a.toNat ++ [⟨l.pa, l.cost, l.b, l.pb⟩])).set l.b.toNat (rawE ls l.b.toNat ++ [⟨l.pb, l.cost, l.a, l.pa⟩]) = famX nb (ls ++ [l]) := by
  obtain ⟨a0, a1, b0, b1, ne, _, _, _⟩ := h
  apply List.ext_getElem?
  intro i
  by_cases hi : i < nb
  · rw [famX_get hi, rawE_app]
    by_cases hb : i = l.b.toNat
    · subst hb
      rw [List.getElem?_set_self (by rw [List.length_set, famX_len]; exact hi)]
      unfold endAt
      rw [if_neg (by omega), if_pos (by omega)]; rfl
    · rw [List.getElem?_set_ne (Ne.symm hb)]
      by_cases ha : i = l.a.toNat
      · subst ha
        rw [List.getElem?_set_self (by rw [famX_len]; exact hi)]
        unfold endAt
        rw [if_pos (by omega), if_neg (by omega)]; rfl
      · rw [List.getElem?_set_ne (Ne.symm ha), famX_get hi]
        unfold endAt
        rw [if_neg (by omega), if_neg (by omega)]; simp
  · rw [List.getElem?_eq_none (by rw [List.length_set, List.length_set, famX_len]; omega), List.getElem?_eq_none (by rw [famX_len]; omega)]
theorem live_take {bs : List Bridge} {ls : List Link} {k : Nat} {l : Link} (h : ls[k]? = some l) : (ls.take (k + 1)).filter (liveB bs) = (ls.take k).filter (liveB bs) ++ if liveB bs l then [l] else [] := by
  rw [List.take_add_one, h, List.filter_append]
  congr 1
  by_cases hl : liveB bs l = true
  · rw [if_pos hl]; simp [hl]
  · rw [if_neg hl]; simp [hl]
def srtX (xs : List (List End)) (j : Nat) : List (List End) := (xs.take j).map sortE ++ xs.drop j
theorem srtX_zero (xs : List (List End)) : srtX xs 0 = xs := by simp [srtX]
theorem srtX_len (xs : List (List End)) (j : Nat) : (srtX xs j).length = xs.length := by simp [srtX]; omega
theorem srtX_at {xs : List (List End)} {j : Nat} {r : List End} (h : xs[j]? = some r) : (srtX xs j)[j]? = some r := by
  have hj := (List.getElem?_eq_some_iff.1 h).1
  unfold srtX
  rw [List.getElem?_append_right (by simp; omega)]
  simp only [List.length_map, List.length_take, Nat.min_eq_left (Nat.le_of_lt hj), Nat.sub_self, List.getElem?_drop, Nat.add_zero]
  exact h
theorem srtX_set {xs : List (List End)} {j : Nat} {r : List End} (h : xs[j]? = some r) : (srtX xs j).set j (sortE r) = srtX xs (j + 1) := by
  have hj := (List.getElem?_eq_some_iff.1 h).1
  have hl : ((xs.take j).map sortE).length = j := by simp; omega
  unfold srtX
  rw [List.set_append_right _ _ (by omega), hl, Nat.sub_self, List.drop_eq_getElem_cons hj, List.set_cons_zero, List.take_add_one, h, List.map_append, List.append_assoc]
  rfl
theorem srtX_all (xs : List (List End)) : srtX xs xs.length = xs.map sortE := by simp [srtX]
theorem sortE_len (r : List End) : (sortE r).length = r.length := List.length_mergeSort r
theorem ends_all (n : Net) : (famX n.bridges.length (liveL n)).map sortE = (List.range n.bridges.length).map (endsOf n) := by
  unfold famX; rw [List.map_map]; rfl
theorem rawE_le (ls : List Link) (i : Nat) : (rawE ls i).length ≤ 2 * ls.length := by
  unfold rawE
  induction ls with
  | nil => simp
  | cons l r ih =>
    rw [List.flatMap_cons, List.length_append, List.length_cons]
    have : (endAt (i : Int) l).length ≤ 2 := by
      unfold endAt
      split <;> split <;> simp
    omega
theorem live_le (n : Net) (k : Nat) : ((n.links.take k).filter (liveB n.bridges)).length ≤ n.links.length :=
  Nat.le_trans (List.length_filter_le _ _) (by simp; omega)
def endsRow (r : List End) : List V := [.slice (r.map endV)]
instance : CellsI endsRow 1 := ⟨fun _ => rfl, fun t d h => by
  simp only [endsRow, List.mem_cons, List.mem_nil_iff, or_false] at h
  subst h; rfl⟩
end Go.Proofs.Ytfmaehhloffabaa
namespace Go.Proofs.Ytfmaehhloffabaa
open Go.RowKit
def sortI (r : List Int) : List Int := r.mergeSort fun x y => decide (x ≤ y)
def rawP (ls : List Link) (i : Int) : List Int := ls.flatMap (portAt i)
theorem portsOf_eq (ls : List Link) (i : Int) : portsOf ls i = sortI (rawP ls i) := rfl
theorem rawP_len (ls : List Link) (i : Int) : (rawP ls i).length ≤ 2 * ls.length := by
  unfold rawP
  induction ls with
  | nil => simp
  | cons l r ih =>
    rw [List.flatMap_cons, List.length_append, List.length_cons]
    have : (portAt i l).length ≤ 2 := by
      unfold portAt
      split <;> split <;> simp
    omega
theorem rawP_step {ls : List Link} {i : Int} {k : Nat} {l : Link} (h : ls[k]? = some l) : rawP (ls.take (k + 1)) i = rawP (ls.take k) i ++ portAt i l := by
  unfold rawP
  rw [List.take_add_one, h, List.flatMap_append]; simp
theorem rawP_nil (ls : List Link) (i : Int) : rawP (ls.take 0) i = [] := rfl
def rolesP (ends : List End) (says : Vec) (root : Int) (l : List Offer) (ps : List Int) : List Int := ps.map fun p => if ends.any (fun e => decide (e.port = p)) then roleOf says root p l else 0
theorem rolesP_len (ends : List End) (says : Vec) (root : Int) (l : List Offer) (ps : List Int) : (rolesP ends says root l ps).length = ps.length := by simp [rolesP]
structure Place where
  vec : Vec
  rootPort : Int
  ports : List Int
  roles : List Int
def Place.cells (p : Place) : List V := p.vec.cells ++ [.int .i64 p.rootPort, .slice (p.ports.map intV1), .slice (p.roles.map intV1)]
instance : CellsI Place.cells 7 := ⟨fun _ => rfl, fun t d h => by
  simp only [Place.cells, Vec.cells, List.cons_append, List.nil_append, List.mem_cons, List.mem_nil_iff, or_false] at h
  rcases h with rfl | rfl | rfl | rfl | rfl | rfl | rfl <;> rfl⟩
def nextS (n : Net) (tree : Int) (says : List Vec) (i : Nat) : Ch := match n.bridges[i]? with
  | some b => chooseS (b.id tree) (offersOf (endsOf n i) says)
  | none => .start 0
def saysOf (n : Net) (tree : Int) (says : List Vec) (i : Nat) : Vec := (nextS n tree says i).says (((n.bridges[i]?).map (·.id tree)).getD 0)
def round1 (n : Net) (tree : Int) (says : List Vec) : List Vec := (List.range n.bridges.length).map (saysOf n tree says)
def says0 (n : Net) (tree : Int) : List Vec := n.bridges.map fun b => ⟨b.id tree, 0, b.id tree, 0⟩
def saysN (n : Net) (tree : Int) : Nat → List Vec
  | 0 => says0 n tree
  | t + 1 => round1 n tree (saysN n tree t)
theorem saysN_len (n : Net) (tree : Int) (t : Nat) : (saysN n tree t).length = n.bridges.length := by
  cases t with
  | zero => simp [saysN, says0]
  | succ t => simp [saysN, round1]
def rootN (n : Net) (tree : Int) : List Int := (List.range n.bridges.length).map fun i => (nextS n tree (saysN n tree n.bridges.length) i).port
def placeOf (n : Net) (tree : Int) (i : Nat) : Place :=
  let says := saysN n tree (n.bridges.length + 1)
  let v := (says[i]?).getD .zero
  let r := ((rootN n tree)[i]?).getD 0
  let ps := portsOf n.links i
  ⟨v, r, ps, rolesP (endsOf n i) v r (offersOf (endsOf n i) says) ps⟩
def planF (n : Net) (tree : Int) : List Place := (List.range n.bridges.length).map (placeOf n tree)
end Go.Proofs.Ytfmaehhloffabaa
namespace Go.Proofs.Ytfmaehhloffabaa
open Go.RowKit
structure Net.typed (n : Net) : Prop where
  ad : ∀ b ∈ n.bridges, 0 ≤ b.addr
  wy : ∀ b ∈ n.bridges, b.region.ways.length ≤ 9223372036854775807
def sidesP (ls : List Link) : List (Int × Int) := ls.flatMap fun l => [(l.a, l.pa), (l.b, l.pb)]
structure Net.good (n : Net) : Prop where
  nb : n.bridges.length ≤ 12
  nl : n.links.length ≤ 40
  br : ∀ b ∈ n.bridges, b.ok
  ad : n.bridges.Pairwise fun a b => a.addr ≠ b.addr
  lk : ∀ l ∈ n.links, l.ok n.bridges.length
  po : (sidesP n.links).Nodup
theorem Bridge.wrong_ok {b : Bridge} (h0 : 0 ≤ b.addr) : b.wrong = 0 ↔ b.ok ∧ b.region.wrong = 0 := by
  unfold Bridge.wrong
  constructor
  · intro h
    split at h
    · omega
    split at h
    · omega
    split at h
    · omega
    rename_i h1 h2 h3
    refine ⟨⟨h0, by omega, by omega, fun p hp hb => h3 (List.any_eq_true.2 ⟨p, hp, decide_eq_true hb⟩), Region.right_of h⟩, h⟩
  · rintro ⟨h, hr⟩
    rw [if_neg (by have := h.a1; omega), if_neg (by have := h.n; omega), if_neg, hr]
    intro h3
    obtain ⟨p, hp, hb⟩ := List.any_eq_true.1 h3
    exact h.p p hp (of_decide_eq_true hb)
theorem Link.wrong_ok {k : Nat} {l : Link} : l.wrong k = 0 ↔ l.ok k := by
  unfold Link.wrong
  constructor
  · intro h
    split at h
    · omega
    split at h
    · omega
    split at h
    · omega
    exact ⟨by omega, by omega, by omega, by omega, by omega, by omega, by omega, by omega⟩
  · rintro ⟨h1, h2, h3, h4, h5, h6, h7, h8⟩
    rw [if_neg (by omega), if_neg (by omega), if_neg (by omega)]
theorem wrongBr_none : ∀ (l seen : List Bridge) (i : Nat), wrongBr seen i l = none ↔ (∀ b ∈ l, b.wrong = 0) ∧ l.Pairwise (fun a b => a.addr ≠ b.addr) ∧ ∀ a ∈ seen, ∀ b ∈ l, a.addr ≠ b.addr
  | [], seen, i => by simp [wrongBr]
  | b :: r, seen, i => by
    rw [wrongBr]
    by_cases h1 : b.wrong = 0
    · rw [if_neg (by simpa using h1)]
      by_cases h2 : seen.any (fun o => decide (o.addr = b.addr)) = true
      · rw [if_pos h2]
        obtain ⟨a, ha, e⟩ := List.any_eq_true.1 h2
        constructor
        · intro h; cases h
        · rintro ⟨_, _, h⟩
          exact absurd (of_decide_eq_true e) (h a ha b (List.mem_cons_self ..))
      · rw [if_neg h2, wrongBr_none r _ _]
        have h2' : ∀ a ∈ seen, a.addr ≠ b.addr := fun a ha e => h2 (List.any_eq_true.2 ⟨a, ha, decide_eq_true e⟩)
        simp only [List.mem_cons, List.pairwise_cons, List.mem_append, forall_eq_or_imp]
        constructor
        · rintro ⟨g1, g2, g3⟩
          exact ⟨⟨h1, g1⟩, ⟨fun a ha => g3 b (by simp) a ha, g2⟩, fun a ha => ⟨h2' a ha, fun c hc => g3 a (.inl ha) c hc⟩⟩
        · rintro ⟨⟨_, g1⟩, ⟨g2, g3⟩, g4⟩
          refine ⟨g1, g3, fun a ha c hc => ?_⟩
          rcases ha with ha | ha
          · exact (g4 a ha).2 c hc
          · simp at ha; subst ha; exact g2 c hc
    · rw [if_pos h1]
      constructor
      · intro h; cases h
      · rintro ⟨h, _⟩
        exact absurd (h b (List.mem_cons_self ..)) h1
theorem wrongBr_some : ∀ (l seen : List Bridge) (i : Nat) (f : Int × Nat), wrongBr seen i l = some f → f.1 ≠ 0
  | [], seen, i, f => by simp [wrongBr]
  | b :: r, seen, i, f => by
    rw [wrongBr]
    split
    · rename_i h; rintro ⟨rfl⟩; exact h
    split
    · rintro ⟨rfl⟩; simp
    · exact wrongBr_some r _ _ f
theorem wrongLk_none (k : Nat) : ∀ (l : List Link) (had : List (Int × Int)) (i : Nat), wrongLk k had i l = none ↔ (∀ x ∈ l, x.wrong k = 0) ∧ (sidesP l).Nodup ∧ ∀ a ∈ had, a ∉ sidesP l
  | [], had, i => by simp [wrongLk, sidesP]
  | x :: r, had, i => by
    have hs : sidesP (x :: r) = (x.a, x.pa) :: (x.b, x.pb) :: sidesP r := rfl
    rw [wrongLk, hs]
    by_cases h1 : x.wrong k = 0
    · rw [if_neg (by simpa using h1)]
      by_cases h2 : (x.a, x.pa) ∈ had
      · rw [if_pos h2]
        exact ⟨fun h => (by cases h), fun ⟨_, _, h⟩ => absurd (List.mem_cons_self ..) (h _ h2)⟩
      rw [if_neg h2]
      by_cases h3 : (x.b, x.pb) ∈ had ++ [(x.a, x.pa)]
      · rw [if_pos h3]
        refine ⟨fun h => (by cases h), fun ⟨_, h4, h⟩ => ?_⟩
        rcases List.mem_append.1 h3 with h3 | h3
        · exact absurd (List.mem_cons_of_mem _ (List.mem_cons_self ..)) (h _ h3)
        · simp only [List.mem_singleton] at h3
          rw [h3] at h4
          simp at h4
      rw [if_neg h3, wrongLk_none k r _ _]
      simp only [List.mem_append, List.mem_singleton, not_or] at h3
      simp only [List.mem_cons, List.nodup_cons, not_or, List.mem_append, List.not_mem_nil, or_false, forall_eq_or_imp]
      constructor
      · rintro ⟨g1, g2, g3⟩
        refine ⟨⟨h1, g1⟩, ⟨⟨fun e => h3.2 e.symm, g3 _ (.inl (.inr rfl))⟩, g3 _ (.inr rfl), g2⟩, fun a ha => ⟨fun e => h2 (e ▸ ha), fun e => h3.1 (e ▸ ha), g3 a (.inl (.inl ha))⟩⟩
      · rintro ⟨⟨_, g1⟩, ⟨⟨_, g2⟩, g3, g4⟩, g5⟩
        refine ⟨g1, g4, fun a ha => ?_⟩
        rcases ha with (ha | rfl) | rfl
        · exact (g5 a ha).2.2
        · exact g2
        · exact g3
    · rw [if_pos h1]
      exact ⟨fun h => (by cases h), fun ⟨h, _⟩ => absurd (h x (List.mem_cons_self ..)) h1⟩
theorem wrongLk_some (k : Nat) : ∀ (l : List Link) (had : List (Int × Int)) (i : Nat) (f : Int × Nat), wrongLk k had i l = some f → f.1 ≠ 0
  | [], had, i, f => by simp [wrongLk]
  | x :: r, had, i, f => by
    rw [wrongLk]
    split
    · rename_i h; rintro ⟨rfl⟩; exact h
    split
    · rintro ⟨rfl⟩; simp
    split
    · rintro ⟨rfl⟩; simp
    · exact wrongLk_some k r _ _ f
theorem Net.wrong_iff {n : Net} (ht : n.typed) : n.wrong.1 = 0 ↔ n.good ∧ ∀ b ∈ n.bridges, b.region.wrong = 0 := by
  unfold Net.wrong
  by_cases h0 : 12 < n.bridges.length ∨ 40 < n.links.length
  · rw [if_pos h0]
    exact ⟨fun h => (by simp at h), fun ⟨h, _⟩ => (by have := h.nb; have := h.nl; omega)⟩
  rw [if_neg h0]
  cases hb : wrongBr [] 0 n.bridges with
  | some f =>
    have := wrongBr_some _ _ _ _ hb
    refine ⟨fun h => absurd h this, fun ⟨h, hr⟩ => ?_⟩
    have hn : wrongBr [] 0 n.bridges = none := (wrongBr_none _ _ _).2 ⟨fun b h' => (Bridge.wrong_ok (ht.ad b h')).2 ⟨h.br b h', hr b h'⟩, h.ad, by simp⟩
    rw [hn] at hb; cases hb
  | none =>
    obtain ⟨b1, b2, _⟩ := (wrongBr_none _ _ _).1 hb
    cases hl : wrongLk n.bridges.length [] 0 n.links with
    | some f =>
      have := wrongLk_some _ _ _ _ _ hl
      refine ⟨fun h => absurd h this, fun ⟨h, hr⟩ => ?_⟩
      have hn : wrongLk n.bridges.length [] 0 n.links = none := (wrongLk_none _ _ _ _).2 ⟨fun l h' => Link.wrong_ok.2 (h.lk l h'), h.po, by simp⟩
      rw [hn] at hl; cases hl
    | none =>
      obtain ⟨l1, l2, _⟩ := (wrongLk_none _ _ _ _).1 hl
      refine ⟨fun _ => ⟨⟨by omega, by omega, fun b h' => ((Bridge.wrong_ok (ht.ad b h')).1 (b1 b h')).1, b2, fun l h' => Link.wrong_ok.1 (l1 l h'), l2⟩, fun b h' => ((Bridge.wrong_ok (ht.ad b h')).1 (b1 b h')).2⟩, fun _ => rfl⟩
theorem Net.wrong_zero {n : Net} (h : n.wrong.1 = 0) : n.wrong = (0, 0) := by
  unfold Net.wrong at *
  split at h
  · simp at h
  rename_i h0
  rw [if_neg h0]
  cases hb : wrongBr [] 0 n.bridges with
  | some f => rw [hb] at h; exact absurd h (wrongBr_some _ _ _ _ hb)
  | none =>
    rw [hb] at h
    cases hl : wrongLk n.bridges.length [] 0 n.links with
    | some f => rw [hl] at h; exact absurd h (wrongLk_some _ _ _ _ _ hl)
    | none => rfl
def sides (ls : List Link) : List ((Int × Int) × End) := ls.flatMap fun l => [((l.a, l.pa), ⟨l.pa, l.cost, l.b, l.pb⟩), ((l.b, l.pb), ⟨l.pb, l.cost, l.a, l.pa⟩)]
theorem sides_fst (ls : List Link) : (sides ls).map (·.1) = sidesP ls := by
  unfold sides sidesP
  induction ls with
  | nil => rfl
  | cons l r ih => simp only [List.flatMap_cons, List.map_append, ih]; rfl
theorem assoc_one {α β : Type} : ∀ {l : List (α × β)} {k : α} {x y : β}, (l.map (·.1)).Nodup → (k, x) ∈ l → (k, y) ∈ l → x = y
  | [], _, _, _, _, h, _ => by cases h
  | (k', z) :: r, k, x, y, hn, h1, h2 => by
    simp only [List.map_cons, List.nodup_cons] at hn
    have key : ∀ {w : β}, (k', w) ∈ r → False := fun {w} hw => hn.1 (List.mem_map.2 ⟨(k', w), hw, rfl⟩)
    rcases List.mem_cons.1 h1 with e1 | j1 <;> rcases List.mem_cons.1 h2 with e2 | j2
    · injection e1 with _ e1; injection e2 with _ e2; rw [e1, e2]
    · injection e1 with e1 _; subst e1; exact (key j2).elim
    · injection e2 with e2 _; subst e2; exact (key j1).elim
    · exact assoc_one hn.2 j1 j2
theorem rawE_side {ls : List Link} {i : Nat} {e : End} (h : e ∈ rawE ls i) : (((i : Int), e.port), e) ∈ sides ls := by
  unfold rawE at h
  obtain ⟨l, hl, he⟩ := List.mem_flatMap.1 h
  refine List.mem_flatMap.2 ⟨l, hl, ?_⟩
  unfold endAt at he
  rcases List.mem_append.1 he with he | he
  · split at he
    · rename_i ha; simp only [List.mem_singleton] at he; subst he; rw [← ha]; exact List.mem_cons_self ..
    · cases he
  · split at he
    · rename_i ha; simp only [List.mem_singleton] at he; subst he; rw [← ha]; exact List.mem_cons_of_mem _ (List.mem_cons_self ..)
    · cases he
theorem sides_mono {ls ls' : List Link} (h : ∀ l ∈ ls, l ∈ ls') {x : (Int × Int) × End} (hx : x ∈ sides ls) : x ∈ sides ls' := by
  obtain ⟨l, hl, he⟩ := List.mem_flatMap.1 hx
  exact List.mem_flatMap.2 ⟨l, h l hl, he⟩
theorem live_sub {n : Net} {l : Link} (h : l ∈ liveL n) : l ∈ n.links := (List.mem_filter.1 h).1
theorem Net.good.end_one {n : Net} (h : n.good) {i : Nat} {x y : End} (hx : x ∈ rawE (liveL n) i) (hy : y ∈ rawE (liveL n) i) (hp : x.port = y.port) : x = y := by
  have hn : ((sides n.links).map (·.1)).Nodup := by rw [sides_fst]; exact h.po
  have h1 := sides_mono (fun l => live_sub (n := n)) (rawE_side hx)
  have h2 := sides_mono (fun l => live_sub (n := n)) (rawE_side hy)
  rw [← hp] at h2
  exact assoc_one hn h1 h2
theorem rawE_ok {n : Net} (h : n.good) {i : Nat} {e : End} (he : e ∈ rawE (liveL n) i) : (1 ≤ e.port ∧ e.port ≤ 30) ∧ (1 ≤ e.cost ∧ e.cost ≤ 200000) ∧ (0 ≤ e.other ∧ e.other < n.bridges.length) ∧ (1 ≤ e.oport ∧ e.oport ≤ 30) ∧ e.other ≠ i := by
  unfold rawE at he
  obtain ⟨l, hl, he⟩ := List.mem_flatMap.1 he
  have hk := h.lk l (live_sub hl)
  unfold endAt at he
  rcases List.mem_append.1 he with he | he
  · split at he
    · rename_i ha; simp only [List.mem_singleton] at he; subst he; exact ⟨hk.pa, hk.c, ⟨hk.b0, hk.b1⟩, hk.pb, by have := hk.ne; simp only; omega⟩
    · cases he
  · split at he
    · rename_i ha; simp only [List.mem_singleton] at he; subst he; exact ⟨hk.pb, hk.c, ⟨hk.a0, hk.a1⟩, hk.pa, by have := hk.ne; simp only; omega⟩
    · cases he
theorem mem_endsOf {n : Net} {i : Nat} {e : End} : e ∈ endsOf n i ↔ e ∈ rawE (liveL n) i := by
  unfold endsOf sortE; exact List.mem_mergeSort
theorem endsOf_len (n : Net) (i : Nat) : (endsOf n i).length ≤ 2 * n.links.length := by
  unfold endsOf
  rw [sortE_len]
  have h1 := rawE_le (liveL n) i
  have h2 : (liveL n).length ≤ n.links.length := List.length_filter_le _ _
  omega
end Go.Proofs.Ytfmaehhloffabaa
namespace Go.Proofs.Ytfmaehhloffabaa
theorem Vec.cmp_lt {a b : Vec} : a.cmp b < 0 ↔ a.root < b.root ∨ (a.root = b.root ∧ (a.cost < b.cost ∨ (a.cost = b.cost ∧ (a.bridge < b.bridge ∨ (a.bridge = b.bridge ∧ a.port < b.port))))) := by
  exact Vec.cmp_neg
theorem Vec.cmp_eq {a b : Vec} : a.cmp b = 0 ↔ a.root = b.root ∧ a.cost = b.cost ∧ a.bridge = b.bridge ∧ a.port = b.port := by
  unfold Vec.cmp
  simp only [orI, cmpI]
  repeat' split
  all_goals (first | omega | (constructor <;> intro h <;> omega))
def Offer.elig (id : Int) (o : Offer) (w : Vec) : Prop := o.vec.over o.cost = some w ∧ 0 ≤ o.port ∧ 0 ≤ o.age ∧ o.age < 20 ∧ w.root < id
def Vec.le2 (a : Vec) (p : Int) (b : Vec) (q : Int) : Prop := a.cmp b < 0 ∨ (a.cmp b = 0 ∧ p ≤ q)
theorem Vec.le2_trans {a b c : Vec} {p q r : Int} (h : a.le2 p b q) (k : b.le2 q c r) : a.le2 p c r := by
  unfold Vec.le2 at *
  simp only [Vec.cmp_lt, Vec.cmp_eq] at *
  omega
theorem Vec.le2_refl (a : Vec) (p : Int) : a.le2 p a p := .inr ⟨Vec.cmp_eq.2 ⟨rfl, rfl, rfl, rfl⟩, Int.le_refl _⟩
theorem Vec.le2_antisymm {a b : Vec} {p q : Int} (h : a.le2 p b q) (k : b.le2 q a p) : a.root = b.root ∧ a.cost = b.cost ∧ a.bridge = b.bridge ∧ a.port = b.port ∧ p = q := by
  unfold Vec.le2 at *
  simp only [Vec.cmp_lt, Vec.cmp_eq] at *
  omega
theorem Vec.le2_total (a b : Vec) (p q : Int) : ¬ (a.cmp b < 0 ∨ (a.cmp b = 0 ∧ p < q)) → b.le2 q a p := by
  unfold Vec.le2
  simp only [Vec.cmp_lt, Vec.cmp_eq]
  omega
theorem Vec.le2_of_lt {a b : Vec} {p q : Int} (h : a.cmp b < 0 ∨ (a.cmp b = 0 ∧ p < q)) : a.le2 p b q := by
  unfold Vec.le2
  rcases h with h | h
  · exact .inl h
  · exact .inr ⟨h.1, by omega⟩
structure Ch.Inv (id : Int) (l : List Offer) (c : Ch) : Prop where
  neg : c.port < 0 → c = .start id
  some : 0 ≤ c.port → ∃ o ∈ l, o.elig id c.best ∧ o.port = c.port ∧ c.age = o.age + 1
  min : ∀ o ∈ l, ∀ w, o.elig id w → 0 ≤ c.port ∧ c.best.le2 c.port w o.port
theorem Ch.inv_step {id : Int} {l : List Offer} {c : Ch} {o : Offer} (h : Ch.Inv id l c) : Ch.Inv id (l ++ [o]) (c.step id o) := by
  by_cases he : ∃ w, o.elig id w
  · obtain ⟨w, hw⟩ := he
    have hi := hw.1
    have e : c.step id o = if (c.port < 0 ∨ ((o.vec.over o.cost).getD .zero).cmp c.best < 0 ∨ (((o.vec.over o.cost).getD .zero).cmp c.best = 0 ∧ o.port < c.port)) then ⟨(o.vec.over o.cost).getD .zero, o.age + 1, o.port⟩ else c :=
      Ch.step_in (by rw [hi]; rfl) hw.2.1 hw.2.2.1 hw.2.2.2.1 (by rw [hi]; exact hw.2.2.2.2)
    rw [hi] at e
    simp only [Option.getD_some] at e
    have huniq : ∀ w', o.elig id w' → w' = w := fun w' h' => by
      have := h'.1.symm.trans hw.1
      injection this
    by_cases hc : c.port < 0 ∨ w.cmp c.best < 0 ∨ (w.cmp c.best = 0 ∧ o.port < c.port)
    · rw [e, if_pos hc]
      refine ⟨fun hn => ?_, fun _ => ⟨o, by simp, hw, rfl, rfl⟩, fun o' ho' w' hw' => ⟨hw.2.1, ?_⟩⟩
      · have := hw.2.1; simp only at hn; omega
      · rcases List.mem_append.1 ho' with h1 | h1
        · obtain ⟨k1, k2⟩ := h.min o' h1 w' hw'
          rcases hc with hc | hc
          · omega
          · exact Vec.le2_trans (Vec.le2_of_lt hc) k2
        · simp at h1; subst h1
          rw [huniq w' hw']
          exact Vec.le2_refl _ _
    · rw [e, if_neg hc]
      have hp : 0 ≤ c.port := by omega
      refine ⟨h.neg, fun hp => ?_, fun o' ho' w' hw' => ⟨hp, ?_⟩⟩
      · obtain ⟨o', h1, h2⟩ := h.some hp
        exact ⟨o', by simp [h1], h2⟩
      · rcases List.mem_append.1 ho' with h1 | h1
        · exact (h.min o' h1 w' hw').2
        · simp at h1; subst h1
          rw [huniq w' hw']
          exact Vec.le2_total _ _ _ _ (fun hh => hc (.inr hh))
  · have e : c.step id o = c := Ch.step_skip (fun h0 h1 h2 h3 => by
      obtain ⟨w, hw⟩ := Option.isSome_iff_exists.1 h0
      rw [hw]
      simp only [Option.getD_some]
      by_cases hr : w.root < id
      · exact absurd ⟨w, hw, h1, h2, h3, hr⟩ he
      · omega)
    rw [e]
    refine ⟨h.neg, fun hp => ?_, fun o' ho' w' hw' => ?_⟩
    · obtain ⟨o', h1, h2⟩ := h.some hp
      exact ⟨o', by simp [h1], h2⟩
    · rcases List.mem_append.1 ho' with h1 | h1
      · exact h.min o' h1 w' hw'
      · simp at h1; subst h1
        exact absurd ⟨w', hw'⟩ he
theorem Ch.inv_fold {id : Int} : ∀ (r l : List Offer) (c : Ch), Ch.Inv id l c → Ch.Inv id (l ++ r) (r.foldl (Ch.step id) c)
  | [], l, c, h => by simpa using h
  | o :: r, l, c, h => by
    have := Ch.inv_fold r (l ++ [o]) (c.step id o) (Ch.inv_step h)
    simpa using this
theorem choose_inv (id : Int) (l : List Offer) : Ch.Inv id l (chooseS id l) := by
  have := Ch.inv_fold (id := id) l [] (.start id) ⟨fun _ => rfl, fun h => by simp [Ch.start] at h, fun o h => by simp at h⟩
  simpa [chooseS] using this
end Go.Proofs.Ytfmaehhloffabaa
