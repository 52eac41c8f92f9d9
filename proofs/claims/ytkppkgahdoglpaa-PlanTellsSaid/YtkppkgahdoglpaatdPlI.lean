/- Contracts: Ident (plan's and the document's), Regions, offers. -/
import Derived.Test.YtkppkgahdoglpaatcPlI
namespace Go.Proofs.Ytkppkgahdoglpaa
open Go.RowKit
attribute [local irreducible] SStep DW DWin DOps thenQ inBlk loopQ retQ retQG FnF FnG Wk IntKind.wrap IntKind.andI IntKind.orI IntKind.xorI IntKind.andNotI IntKind.shlI IntKind.shrI Region.wrong Bridge.wrong Link.wrong Bridge.prio identR
theorem prio_at {b : Bridge} {t : Nat} {p : Int} (h : b.prios[t]? = some p) : b.prio (t : Int) = p := by
  unfold Bridge.prio; rw [if_pos (by omega), Int.toNat_natCast, h]; rfl
theorem prio_no {b : Bridge} {t : Int} (h : t < 0 ∨ b.prios.length ≤ t) : b.prio t = 32768 := by
  unfold Bridge.prio
  split
  · rw [List.getElem?_eq_none (by omega)]; rfl
  · rfl
set_option maxHeartbeats 1000000 in
theorem plan_Ident (b : Bridge) (hb : b.ok) (t : Int) : FnF Try.prog 17 [.agg (bridgeV b), .int .i64 t] (.int .u64 (b.id t)) := by
  refine fnF_of Try.func17 rfl rfl rfl ?_
  simp only [envOf]
  have hml : (b.prios.map intV1).length = b.prios.length := by simp
  obtain ⟨p0, p1⟩ := Bridge.prio_in hb t
  by_cases h0 : 0 ≤ t
  · obtain ⟨t, rfl⟩ : ∃ k : Nat, t = (k : Int) := ⟨t.toNat, by omega⟩
    by_cases h1 : t < b.prios.length
    · have hx : b.prios[((t : Nat) : Int).toNat]? = some b.prios[t] := by simp [h1]
      have hp := prio_at (b := b) (t := t) hx
      rw [← hp] at hx
      have e1 := shl_48 p0 p1
      have e2 := or_48 p0 p1 hb.a0 hb.a1
      unfold Bridge.id
      generalize b.prio (t : Int) = p at hx p0 p1 e1 e2
      repeat' (first
    | (apply Stp.go; case a => constructor)
    | refine blk_hit rfl ?_ | refine blk_miss rfl ?_ | refine dnilD (by kernel_rfl) ?_ | refine DW_cond_t rfl ?_ | refine DW_cond_f rfl ?_
    | refine dpOff rfl rfl ?_
    | ((first | apply dX rfl | apply dXon rfl rfl | apply dpMay rfl rfl (by intro h; first | trivial | exact ⟨h, trivial⟩ | exact ⟨h, h, trivial⟩ | exact ⟨h, h, h, trivial⟩)); (case h => ((try intro hg); first | exact as_bool (S_geq rfl rfl) (decide_eq_true (by omega : (0 : Int) ≤ (t : Int))) | exact as_bool (S_lss rfl rfl) (decide_eq_true (by omega : (t : Int) < ((b.prios.map intV1).length : Int))) | exact S_ixM rfl rfl (by omega) hx | exact I_toInt rfl (by simp only [InK]; omega) | exact as_int (S_shl rfl rfl (by decide)) e1 | exact as_int (S_or rfl rfl) e2 | exact S_al rfl | exact S_bx rfl rfl | exact S_store rfl rfl rfl rfl rfl rfl | (apply Pu.ok; repeat' (first | rfl | exact .inK (by simp only [InK]; omega) | exact .inK (by simp only [InK]; simp at hg; omega) | exact .wr | constructor | decide | omega)))); (try case hp => constructor))
    | refine dpickAnd rfl rfl rfl rfl rfl ?_ | refine dpickOr rfl rfl rfl rfl rfl ?_
    | fail)
      refine ret1 rfl (.inl rfl) ?_
      rfl
    · have hp := prio_no (b := b) (t := (t : Int)) (by omega)
      rw [hp] at p0 p1
      have e1 := shl_48 p0 p1
      have e2 := or_48 p0 p1 hb.a0 hb.a1
      unfold Bridge.id
      rw [hp]
      repeat' (first
    | (apply Stp.go; case a => constructor)
    | refine blk_hit rfl ?_ | refine blk_miss rfl ?_ | refine dnilD (by kernel_rfl) ?_ | refine DW_cond_t rfl ?_ | refine DW_cond_f rfl ?_
    | refine dpOff rfl rfl ?_
    | ((first | apply dX rfl | apply dXon rfl rfl | apply dpMay rfl rfl (by intro h; first | trivial | exact ⟨h, trivial⟩ | exact ⟨h, h, trivial⟩ | exact ⟨h, h, h, trivial⟩)); (case h => ((try intro hg); first | exact as_bool (S_geq rfl rfl) (decide_eq_true (by omega : (0 : Int) ≤ (t : Int))) | exact as_bool (S_lss rfl rfl) (decide_eq_false (by omega : ¬ (t : Int) < ((b.prios.map intV1).length : Int))) | exact I_toInt rfl (by simp only [InK]; omega) | exact as_int (S_shl rfl rfl (by decide)) e1 | exact as_int (S_or rfl rfl) e2 | exact S_al rfl | exact S_bx rfl rfl | exact S_store rfl rfl rfl rfl rfl rfl | (apply Pu.ok; repeat' (first | rfl | exact .inK (by simp only [InK]; omega) | exact .inK (by simp only [InK]; simp at hg; omega) | exact .wr | constructor | decide | omega)))); (try case hp => constructor))
    | refine dpickAnd rfl rfl rfl rfl rfl ?_ | refine dpickOr rfl rfl rfl rfl rfl ?_
    | fail)
      refine ret1 rfl (.inl rfl) ?_
      rfl
  · have hp := prio_no (b := b) (t := t) (by omega)
    rw [hp] at p0 p1
    have e1 := shl_48 p0 p1
    have e2 := or_48 p0 p1 hb.a0 hb.a1
    unfold Bridge.id
    rw [hp]
    repeat' (first
    | (apply Stp.go; case a => constructor)
    | refine blk_hit rfl ?_ | refine blk_miss rfl ?_ | refine dnilD (by kernel_rfl) ?_ | refine DW_cond_t rfl ?_ | refine DW_cond_f rfl ?_
    | refine dpOff rfl rfl ?_
    | ((first | apply dX rfl | apply dXon rfl rfl | apply dpMay rfl rfl (by intro h; first | trivial | exact ⟨h, trivial⟩ | exact ⟨h, h, trivial⟩ | exact ⟨h, h, h, trivial⟩)); (case h => ((try intro hg); first | exact as_bool (S_geq rfl rfl) (decide_eq_false h0) | exact I_toInt rfl (by simp only [InK]; omega) | exact as_int (S_shl rfl rfl (by decide)) e1 | exact as_int (S_or rfl rfl) e2 | exact S_al rfl | exact S_bx rfl rfl | exact S_store rfl rfl rfl rfl rfl rfl | (apply Pu.ok; repeat' (first | rfl | exact .inK (by simp only [InK]; omega) | exact .inK (by simp only [InK]; simp at hg; omega) | exact .wr | constructor | decide | omega)))); (try case hp => constructor))
    | refine dpickAnd rfl rfl rfl rfl rfl ?_ | refine dpickOr rfl rfl rfl rfl rfl ?_
    | fail)
    refine ret1 rfl (.inl rfl) ?_
    rfl
set_option maxHeartbeats 1000000 in
theorem ref6_Ident (b : Bridge) (hb : b.ok) (t : Nat) : FnF Try.prog 18 [.agg (bridgeV b), .int .i64 t] (.int .u64 (b.id t)) := by
  refine fnF_of Try.func18 rfl rfl rfl ?_
  simp only [envOf]
  have hml : (b.prios.map intV1).length = b.prios.length := by simp
  obtain ⟨p0, p1⟩ := Bridge.prio_in hb t
  have a0 := hb.a0
  have a1 := hb.a1
  have w1 : ∀ p : Int, 0 ≤ p → p ≤ 61440 → IntKind.u64.wrap (p * 281474976710656) = p * 281474976710656 := fun p h1 h2 => wrap_in (by simp only [InK]; omega)
  have w2 : ∀ p : Int, 0 ≤ p → p ≤ 61440 → IntKind.u64.wrap (p * 281474976710656 + b.addr) = p * 281474976710656 + b.addr := fun p h1 h2 => wrap_in (by simp only [InK]; omega)
  by_cases h1 : t < b.prios.length
  · have hx : b.prios[((t : Nat) : Int).toNat]? = some b.prios[t] := by simp [h1]
    have hp := prio_at (b := b) (t := t) hx
    rw [← hp] at hx
    unfold Bridge.id
    generalize b.prio (t : Int) = p at hx p0 p1
    repeat' (first
    | (apply Stp.go; case a => constructor)
    | refine blk_hit rfl ?_ | refine blk_miss rfl ?_ | refine dnilD (by kernel_rfl) ?_ | refine DW_cond_t rfl ?_ | refine DW_cond_f rfl ?_
    | refine dpOff rfl rfl ?_
    | ((first | apply dX rfl | apply dXon rfl rfl | apply dpMay rfl rfl (by intro h; first | trivial | exact ⟨h, trivial⟩ | exact ⟨h, h, trivial⟩ | exact ⟨h, h, h, trivial⟩)); (case h => ((try intro hg); first | exact as_bool (S_lss rfl rfl) (decide_eq_true (by omega : (t : Int) < ((b.prios.map intV1).length : Int))) | exact S_ixM rfl rfl (by omega) hx | exact I_toInt rfl (by simp only [InK]; omega) | exact as_int (S_mul rfl rfl) (w1 p p0 p1) | exact as_int (S_add rfl rfl) (w2 p p0 p1) | exact S_al rfl | exact S_bx rfl rfl | exact S_store rfl rfl rfl rfl rfl rfl | (apply Pu.ok; repeat' (first | rfl | exact .inK (by simp only [InK]; omega) | exact .inK (by simp only [InK]; simp at hg; omega) | exact .wr | constructor | decide | omega)))); (try case hp => constructor))
    | refine dpickAnd rfl rfl rfl rfl rfl ?_ | refine dpickOr rfl rfl rfl rfl rfl ?_
    | fail)
    refine ret1 rfl (.inl rfl) ?_
    rfl
  · have hp := prio_no (b := b) (t := (t : Int)) (by omega)
    unfold Bridge.id
    rw [hp]
    repeat' (first
    | (apply Stp.go; case a => constructor)
    | refine blk_hit rfl ?_ | refine blk_miss rfl ?_ | refine dnilD (by kernel_rfl) ?_ | refine DW_cond_t rfl ?_ | refine DW_cond_f rfl ?_
    | refine dpOff rfl rfl ?_
    | ((first | apply dX rfl | apply dXon rfl rfl | apply dpMay rfl rfl (by intro h; first | trivial | exact ⟨h, trivial⟩ | exact ⟨h, h, trivial⟩ | exact ⟨h, h, h, trivial⟩)); (case h => ((try intro hg); first | exact as_bool (S_lss rfl rfl) (decide_eq_false (by omega : ¬ (t : Int) < ((b.prios.map intV1).length : Int))) | exact as_int (S_mul rfl rfl) (w1 32768 (by omega) (by omega)) | exact as_int (S_add rfl rfl) (w2 32768 (by omega) (by omega)) | exact S_al rfl | exact S_bx rfl rfl | exact S_store rfl rfl rfl rfl rfl rfl | (apply Pu.ok; repeat' (first | rfl | exact .inK (by simp only [InK]; omega) | exact .inK (by simp only [InK]; simp at hg; omega) | exact .wr | constructor | decide | omega)))); (try case hp => constructor))
    | refine dpickAnd rfl rfl rfl rfl rfl ?_ | refine dpickOr rfl rfl rfl rfl rfl ?_
    | fail)
    refine ret1 rfl (.inl rfl) ?_
    rfl
set_option maxHeartbeats 1000000 in
theorem plan_Regions (n : Net) (hb : ∀ b ∈ n.bridges, b.region.right) (hl : n.bridges.length ≤ 12) : FnF Try.prog 37 [.rp n.cells] (.slice ((idsR n.bridges).map bytesR)) := by
  refine fnF_of Try.func37 rfl rfl rfl ?_
  simp only [envOf]
  have hml : (n.bridges.map bridgeV).length = n.bridges.length := by simp
  repeat' (first
    | (apply Stp.go; case a => constructor)
    | refine blk_hit rfl ?_ | refine blk_miss rfl ?_ | refine dnilD (by kernel_rfl) ?_ | refine DW_cond_t rfl ?_ | refine DW_cond_f rfl ?_
    | refine dpOff rfl rfl ?_
    | ((first | apply dX rfl | apply dXon rfl rfl | apply dpMay rfl rfl (by intro h; first | trivial | exact ⟨h, trivial⟩ | exact ⟨h, h, trivial⟩ | exact ⟨h, h, h, trivial⟩)); (case h => ((try intro hg); first | exact S_al rfl | exact S_bx rfl rfl | exact S_store rfl rfl rfl rfl rfl rfl | (apply Pu.ok; repeat' (first | rfl | exact .inK (by simp only [InK]; omega) | exact .inK (by simp only [InK]; simp at hg; omega) | exact .wr | constructor | decide | omega)))); (try case hp => constructor))
    | refine dpickAnd rfl rfl rfl rfl rfl ?_ | refine dpickOr rfl rfl rfl rfl rfl ?_
    | fail)
  refine DW_loop (fun p : Nat × List (List UInt8) => ⟨[(3, .own 3 0 0 p.2.length), (9, .dat false (.slice (n.bridges.map bridgeV))), (10, .dat true (.int .i64 (n.bridges.map bridgeV).length)), (11, .dat true (.int .i64 p.1))], [(3, .row 0 false true 1 (p.2.map bytesR))], 23⟩)
    (fun p => p.1 ≤ n.bridges.length ∧ p.2 = (idsR n.bridges).take p.1) (fun p => n.bridges.length - p.1) (0, []) ⟨Nat.zero_le _, rfl⟩
    (Wk_g (fun g => if g = 3 then none else some g) rfl rfl (by (repeat' (first | exact trivial | rfl | exact listLe_map _ | exact ⟨_, rfl, .inl rfl⟩ | exact ⟨_, rfl, .inr (.inl rfl)⟩ | exact ⟨_, rfl, .inr (.inr rfl)⟩ | refine ⟨_, _, rfl, rfl, ?_⟩ | exact ⟨_, rfl, rfl⟩ | exact ⟨_, _, _, _, rfl, rfl, rfl⟩ | exact ⟨_, rfl⟩ | exact ⟨_, _, rfl⟩ | apply And.intro)))) (fun p hR => ?_)
  obtain ⟨k, us⟩ := p
  obtain ⟨hk, hus⟩ := hR
  simp only at hk hus
  dsimp only
  have hul : us.length = k := by rw [hus]; simp [idsR]; omega
  by_cases hlt : k < n.bridges.length
  · have hx : n.bridges[(k : Int).toNat]? = some n.bridges[k] := by simp [hlt]
    have hr := hb n.bridges[k] (List.getElem_mem hlt)
    have hnext : us ++ [identR n.bridges[k].region] = (idsR n.bridges).take (k + 1) := by
      rw [hus, List.take_add_one]; simp [idsR, hlt]
    generalize n.bridges[k] = b at hx hr hnext
    have hi := region_Ident b.region hr
    repeat' (first
    | (apply Stp.go; case a => constructor)
    | refine blk_hit rfl ?_ | refine blk_miss rfl ?_ | refine dnilD (by kernel_rfl) ?_ | refine DW_cond_t rfl ?_ | refine DW_cond_f rfl ?_
    | refine dpOff rfl rfl ?_
    | ((first | apply dX rfl | apply dXon rfl rfl | apply dpMay rfl rfl (by intro h; first | trivial | exact ⟨h, trivial⟩ | exact ⟨h, h, trivial⟩ | exact ⟨h, h, h, trivial⟩)); (case h => ((try intro hg); first | exact as_bool (S_lss rfl rfl) (decide_eq_true (by omega : (k : Int) < ((n.bridges.map bridgeV).length : Int))) | exact S_ixM rfl rfl (by omega) hx | exact S_call hi rfl | exact S_appM (f := bytesR) (us := us) (bs := [identR b.region]) rfl rfl (.dat _ _) rfl rfl (.inl rfl) rfl (by simp only [List.length_singleton]; omega) | exact S_al rfl | exact S_bx rfl rfl | exact S_store rfl rfl rfl rfl rfl rfl | (apply Pu.ok; repeat' (first | rfl | exact .inK (by simp only [InK]; omega) | exact .inK (by simp only [InK]; simp at hg; omega) | exact .wr | constructor | decide | omega)))); (try case hp => constructor))
    | refine dpickAnd rfl rfl rfl rfl rfl ?_ | refine dpickOr rfl rfl rfl rfl rfl ?_
    | fail)
    exact loop_again (k + 1, us ++ [identR b.region]) ⟨hlt, hnext⟩ (by simp only; omega) (Wk_g some rfl rfl (by (repeat' (first | exact trivial | rfl | exact listLe_map _ | exact ⟨_, rfl, .inl rfl⟩ | exact ⟨_, rfl, .inr (.inl rfl)⟩ | exact ⟨_, rfl, .inr (.inr rfl)⟩ | refine ⟨_, _, rfl, rfl, ?_⟩ | exact ⟨_, rfl, rfl⟩ | exact ⟨_, _, _, _, rfl, rfl, rfl⟩ | exact ⟨_, rfl⟩ | exact ⟨_, _, rfl⟩ | apply And.intro))))
  · have he : us = idsR n.bridges := by rw [hus]; exact List.take_of_length_le (by simp [idsR]; omega)
    refine DW_seal 3 rfl rfl (by simp) ?_
    repeat' (first
    | (apply Stp.go; case a => constructor)
    | refine blk_hit rfl ?_ | refine blk_miss rfl ?_ | refine dnilD (by kernel_rfl) ?_ | refine DW_cond_t rfl ?_ | refine DW_cond_f rfl ?_
    | refine dpOff rfl rfl ?_
    | ((first | apply dX rfl | apply dXon rfl rfl | apply dpMay rfl rfl (by intro h; first | trivial | exact ⟨h, trivial⟩ | exact ⟨h, h, trivial⟩ | exact ⟨h, h, h, trivial⟩)); (case h => ((try intro hg); first | exact as_bool (S_lss rfl rfl) (decide_eq_false (by omega : ¬ (k : Int) < ((n.bridges.map bridgeV).length : Int))) | exact S_al rfl | exact S_bx rfl rfl | exact S_store rfl rfl rfl rfl rfl rfl | (apply Pu.ok; repeat' (first | rfl | exact .inK (by simp only [InK]; omega) | exact .inK (by simp only [InK]; simp at hg; omega) | exact .wr | constructor | decide | omega)))); (try case hp => constructor))
    | refine dpickAnd rfl rfl rfl rfl rfl ?_ | refine dpickOr rfl rfl rfl rfl rfl ?_
    | fail)
    refine ret1 rfl (.inl rfl) ?_
    rw [← he]
set_option maxHeartbeats 1000000 in
theorem plan_offers (ends : List End) (says : List Vec) (hl : ends.length ≤ 1000) (ho : ∀ e ∈ ends, 0 ≤ e.other ∧ e.other < says.length) : FnF Try.prog 40 [.slice (ends.map endV), .slice (says.map Vec.cells)] (offers (offersOf ends says)) := by
  refine fnF_of Try.func40 rfl rfl rfl ?_
  simp only [envOf, offers]
  have hml : (ends.map endV).length = ends.length := by simp
  have hms : (says.map Vec.cells).length = says.length := by simp
  repeat' (first
    | (apply Stp.go; case a => constructor)
    | refine blk_hit rfl ?_ | refine blk_miss rfl ?_ | refine dnilD (by kernel_rfl) ?_ | refine DW_cond_t rfl ?_ | refine DW_cond_f rfl ?_
    | refine dpOff rfl rfl ?_
    | ((first | apply dX rfl | apply dXon rfl rfl | apply dpMay rfl rfl (by intro h; first | trivial | exact ⟨h, trivial⟩ | exact ⟨h, h, trivial⟩ | exact ⟨h, h, h, trivial⟩)); (case h => ((try intro hg); first | exact S_al rfl | exact S_bx rfl rfl | exact S_store rfl rfl rfl rfl rfl rfl | (apply Pu.ok; repeat' (first | rfl | exact .inK (by simp only [InK]; omega) | exact .inK (by simp only [InK]; simp at hg; omega) | exact .wr | constructor | decide | omega)))); (try case hp => constructor))
    | refine dpickAnd rfl rfl rfl rfl rfl ?_ | refine dpickOr rfl rfl rfl rfl rfl ?_
    | fail)
  refine DW_loop (fun p : Nat × List Offer => ⟨[(1, .dat false (.slice (says.map Vec.cells))), (5, .own 5 0 0 p.2.length), (9, .dat false (.slice (ends.map endV))), (10, .dat true (.int .i64 (ends.map endV).length)), (11, .dat true (.int .i64 p.1))], [(5, .row 0 false true 7 (p.2.map Offer.cells))], 34⟩)
    (fun p => p.1 ≤ ends.length ∧ p.2 = offersOf (ends.take p.1) says) (fun p => ends.length - p.1) (0, []) ⟨Nat.zero_le _, rfl⟩
    (Wk_g (fun g => if g = 5 then none else some g) rfl rfl (by (repeat' (first | exact trivial | rfl | exact listLe_map _ | exact ⟨_, rfl, .inl rfl⟩ | exact ⟨_, rfl, .inr (.inl rfl)⟩ | exact ⟨_, rfl, .inr (.inr rfl)⟩ | refine ⟨_, _, rfl, rfl, ?_⟩ | exact ⟨_, rfl, rfl⟩ | exact ⟨_, _, _, _, rfl, rfl, rfl⟩ | exact ⟨_, rfl⟩ | exact ⟨_, _, rfl⟩ | apply And.intro)))) (fun p hR => ?_)
  obtain ⟨k, us⟩ := p
  obtain ⟨hk, hus⟩ := hR
  simp only at hk hus
  dsimp only
  have hul : us.length = k := by rw [hus]; simp [offersOf]; omega
  by_cases hlt : k < ends.length
  · have hx : ends[(k : Int).toNat]? = some ends[k] := by simp [hlt]
    have hr := ho ends[k] (List.getElem_mem hlt)
    have hnext : us ++ [offerOf says ends[k]] = offersOf (ends.take (k + 1)) says := by
      rw [hus, List.take_add_one, List.getElem?_eq_getElem hlt]; unfold offersOf; rw [List.map_append]; rfl
    generalize ends[k] = e at hx hr hnext
    have hy : says[e.other.toNat]? = some (says[e.other.toNat]'(by omega)) := List.getElem?_eq_getElem (by omega)
    have hoe : offerOf says e = ⟨e.port, e.cost, 0, { (says[e.other.toNat]'(by omega)) with port := e.oport }⟩ := by unfold offerOf; rw [hy]; rfl
    generalize says[e.other.toNat]'(by omega) = v at hy hoe
    repeat' (first
    | (apply Stp.go; case a => constructor)
    | refine blk_hit rfl ?_ | refine blk_miss rfl ?_ | refine dnilD (by kernel_rfl) ?_ | refine DW_cond_t rfl ?_ | refine DW_cond_f rfl ?_
    | refine dpOff rfl rfl ?_
    | ((first | apply dX rfl | apply dXon rfl rfl | apply dpMay rfl rfl (by intro h; first | trivial | exact ⟨h, trivial⟩ | exact ⟨h, h, trivial⟩ | exact ⟨h, h, h, trivial⟩)); (case h => ((try intro hg); first | exact as_bool (S_lss rfl rfl) (decide_eq_true (by omega : (k : Int) < ((ends.map endV).length : Int))) | exact S_ixM rfl rfl (by omega) hx | exact S_ixM rfl rfl hr.1 hy | exact S_appM (f := Offer.cells) (us := us) (bs := [offerOf says e]) rfl rfl (.dat _ _) (by rw [hoe]; rfl) rfl (.inr ⟨rfl, inferInstance⟩) rfl (by simp only [List.length_singleton]; omega) | exact S_al rfl | exact S_bx rfl rfl | exact S_store rfl rfl rfl rfl rfl rfl | (apply Pu.ok; repeat' (first | rfl | exact .inK (by simp only [InK]; omega) | exact .inK (by simp only [InK]; simp at hg; omega) | exact .wr | constructor | decide | omega)))); (try case hp => constructor))
    | refine dpickAnd rfl rfl rfl rfl rfl ?_ | refine dpickOr rfl rfl rfl rfl rfl ?_
    | fail)
    exact loop_again (k + 1, us ++ [offerOf says e]) ⟨hlt, hnext⟩ (by simp only; omega) (Wk_g some rfl rfl (by (repeat' (first | exact trivial | rfl | exact listLe_map _ | exact ⟨_, rfl, .inl rfl⟩ | exact ⟨_, rfl, .inr (.inl rfl)⟩ | exact ⟨_, rfl, .inr (.inr rfl)⟩ | refine ⟨_, _, rfl, rfl, ?_⟩ | exact ⟨_, rfl, rfl⟩ | exact ⟨_, _, _, _, rfl, rfl, rfl⟩ | exact ⟨_, rfl⟩ | exact ⟨_, _, rfl⟩ | apply And.intro))))
  · have he : us = offersOf ends says := by rw [hus, List.take_of_length_le (by omega)]
    refine DW_seal 5 rfl rfl (by simp) ?_
    repeat' (first
    | (apply Stp.go; case a => constructor)
    | refine blk_hit rfl ?_ | refine blk_miss rfl ?_ | refine dnilD (by kernel_rfl) ?_ | refine DW_cond_t rfl ?_ | refine DW_cond_f rfl ?_
    | refine dpOff rfl rfl ?_
    | ((first | apply dX rfl | apply dXon rfl rfl | apply dpMay rfl rfl (by intro h; first | trivial | exact ⟨h, trivial⟩ | exact ⟨h, h, trivial⟩ | exact ⟨h, h, h, trivial⟩)); (case h => ((try intro hg); first | exact as_bool (S_lss rfl rfl) (decide_eq_false (by omega : ¬ (k : Int) < ((ends.map endV).length : Int))) | exact S_al rfl | exact S_bx rfl rfl | exact S_store rfl rfl rfl rfl rfl rfl | (apply Pu.ok; repeat' (first | rfl | exact .inK (by simp only [InK]; omega) | exact .inK (by simp only [InK]; simp at hg; omega) | exact .wr | constructor | decide | omega)))); (try case hp => constructor))
    | refine dpickAnd rfl rfl rfl rfl rfl ?_ | refine dpickOr rfl rfl rfl rfl rfl ?_
    | fail)
    refine ret1 rfl (.inl rfl) ?_
    rw [← he]
end Go.Proofs.Ytkppkgahdoglpaa
