/- MD5: what it is; contracts of its small parts. -/
import Derived.Test.YtfmaehhloffabaaycPlW
import Derived.Test.YtfmaehhloffabaayTy
import Derived.Test.YtfmaehhloffabaaybFz
namespace Go.Proofs.Ytfmaehhloffabaa
open Go.RowKit
attribute [local irreducible] SStep DW DWin DOps thenQ inBlk loopQ retQ retQG FnF FnG Wk IntKind.wrap IntKind.andI IntKind.orI IntKind.xorI IntKind.andNotI IntKind.shlI IntKind.shrI Region.wrong Bridge.wrong Link.wrong
set_option maxHeartbeats 4000000 in
theorem plan_Wrong (n : Net) (hw : ∀ b ∈ n.bridges, b.region.ways.length ≤ 9223372036854775807) : FnF Try.prog 17 [n.v] (faultV n.wrong) := by
  refine fnF_of Try.func17 rfl rfl rfl ?_
  simp only [envOf]
  have hmb : (n.bridges.map bridgeV).length = n.bridges.length := by simp
  have hml : (n.links.map linkV).length = n.links.length := by simp
  repeat' (first | (apply Wa; constructor) | refine Wb rfl ?_ | refine Wc rfl ?_ | refine Wd (by kernel_rfl) ?_ | refine We rfl ?_ | refine Wf rfl ?_ | refine DW_cond rfl (fun hb => ?_) (fun hb => ?_) | refine Wi rfl rfl ?_ | ((first | apply dX rfl | apply Da rfl rfl | apply Db rfl rfl (by intro h; first | trivial | exact ⟨h, trivial⟩ | exact ⟨h, h, trivial⟩)); (focus ((try intro hg); first | exact S_al rfl | exact S_bx rfl rfl | exact S_store rfl rfl rfl rfl rfl rfl | (apply Pu.ok; repeat' (first | rfl | exact .inK (by simp only [InK]; omega) | exact .wr | constructor | decide | omega)))); constructor) | refine Pa rfl rfl rfl rfl rfl ?_ | refine Po rfl rfl rfl rfl rfl ?_ | fail)
  · refine retN (.cellA inferInstance rfl rfl rfl rfl (by first | exact .inl rfl | exact .inr (flat_of rfl)) .nil) ?_
    simp only [Bool.or_eq_true, decide_eq_true_eq] at hb
    unfold Net.wrong
    rw [if_pos (by omega)]
    rfl
  simp only [Bool.or_eq_false_iff, decide_eq_false_iff_not] at hb
  have h0 : ¬ (12 < n.bridges.length ∨ 40 < n.links.length) := by omega
  refine DW_freeze 1 (fun _ _ _ h => by cases h) ?_
  refine DW_loop (fun k : Nat => ⟨[(1, .ptr 1 0), (2, .ptr 2 0), (24, .dat true (.int .i64 (n.bridges.map bridgeV).length)), (25, .dat true (.int .i64 k))], [(1, .cells true true (n.cells.map (.dat false))), (2, .cells false true [.dat true (.int .i64 0), .dat true (.int .i64 0)])], 101⟩)
    (fun k => k ≤ n.bridges.length ∧ wrongBr [] 0 n.bridges = wrongBr (n.bridges.take k) k (n.bridges.drop k)) (fun k => n.bridges.length - k) 0 ⟨Nat.zero_le _, rfl⟩
    (Wk_g some rfl rfl (by (repeat' (first | exact trivial | rfl | exact listLe_map _ | exact ⟨_, rfl, .inl rfl⟩ | exact ⟨_, rfl, .inr (.inl rfl)⟩ | exact ⟨_, rfl, .inr (.inr rfl)⟩ | refine ⟨_, _, rfl, rfl, ?_⟩ | exact ⟨_, rfl, rfl⟩ | exact ⟨_, _, _, _, rfl, rfl, rfl⟩ | exact ⟨_, rfl⟩ | exact ⟨_, _, rfl⟩ | apply And.intro)))) (fun k hR => ?_)
  obtain ⟨hk, hbr⟩ := hR
  by_cases hlt : k < n.bridges.length
  · have hx : n.bridges[(k : Int).toNat]? = some n.bridges[k] := by simp [hlt]
    have hx' : n.bridges[k]? = some n.bridges[k] := by simp [hlt]
    have hn : n.bridges.drop k = n.bridges[k] :: n.bridges.drop (k + 1) := List.drop_eq_getElem_cons hlt
    have hwb := hw n.bridges[k] (List.getElem_mem hlt)
    generalize n.bridges[k] = b at hx hx' hn hwb
    have ht : n.bridges.take (k + 1) = n.bridges.take k ++ [b] := by rw [List.take_add_one, hx']; rfl
    rw [hn, wrongBr] at hbr
    by_cases h1 : b.wrong = 0
    · rw [if_neg (by simpa using h1)] at hbr
      cases ha : (n.bridges.take k).any (fun o => decide (o.addr = b.addr)) with
      | true =>
        rw [if_pos ha] at hbr
        have hc := br_ContainsFunc (n.bridges.take k) 32 [.rp n.cells, .rp [.int .i64 k]] (fun o => decide (o.addr = b.addr)) (fun o => wrong_fn n k b o hx')
        rw [ha] at hc
        repeat' (first | (apply Wa; constructor) | refine Wb rfl ?_ | refine Wc rfl ?_ | refine Wd (by kernel_rfl) ?_ | refine We rfl ?_ | refine Wf rfl ?_ | refine Wi rfl rfl ?_ | ((first | apply dX rfl | apply Da rfl rfl | apply Db rfl rfl (by intro h; first | trivial | exact ⟨h, trivial⟩ | exact ⟨h, h, trivial⟩)); (focus ((try intro hg); first | exact as_bool (S_lss rfl rfl) (decide_eq_true (by omega : (k : Int) < ((n.bridges.map bridgeV).length : Int))) | exact S_ixM rfl rfl (by omega) hx | exact S_call (plan_bridge b hwb) rfl | exact as_bool (S_eql rfl rfl) (decide_eq_true h1) | exact S_slM (n.bridges.take k) rfl (.none _) (.some _ _ _ _ k rfl) (by omega) (by omega) (by simp) | exact S_frz 3 rfl rfl (S_makeFunc rfl) | exact S_call hc rfl | exact S_al rfl | exact S_bx rfl rfl | exact S_store rfl rfl rfl rfl rfl rfl | (apply Pu.ok; repeat' (first | rfl | exact .inK (by simp only [InK]; omega) | exact .wr | constructor | decide | omega)))); constructor) | refine Pa rfl rfl rfl rfl rfl ?_ | refine Po rfl rfl rfl rfl rfl ?_ | fail)
        refine retN (.cellA inferInstance rfl rfl rfl rfl (by first | exact .inl rfl | exact .inr (flat_of rfl)) .nil) ?_
        unfold Net.wrong
        rw [if_neg h0, hbr]
        rfl
      | false =>
        rw [if_neg (by rw [ha]; simp)] at hbr
        have hc := br_ContainsFunc (n.bridges.take k) 32 [.rp n.cells, .rp [.int .i64 k]] (fun o => decide (o.addr = b.addr)) (fun o => wrong_fn n k b o hx')
        rw [ha] at hc
        repeat' (first | (apply Wa; constructor) | refine Wb rfl ?_ | refine Wc rfl ?_ | refine Wd (by kernel_rfl) ?_ | refine We rfl ?_ | refine Wf rfl ?_ | refine Wi rfl rfl ?_ | ((first | apply dX rfl | apply Da rfl rfl | apply Db rfl rfl (by intro h; first | trivial | exact ⟨h, trivial⟩ | exact ⟨h, h, trivial⟩)); (focus ((try intro hg); first | exact as_bool (S_lss rfl rfl) (decide_eq_true (by omega : (k : Int) < ((n.bridges.map bridgeV).length : Int))) | exact S_ixM rfl rfl (by omega) hx | exact S_call (plan_bridge b hwb) rfl | exact as_bool (S_eql rfl rfl) (decide_eq_true h1) | exact as_bool (b := false) (S_neq rfl rfl) (by simp [h1]) | exact S_slM (n.bridges.take k) rfl (.none _) (.some _ _ _ _ k rfl) (by omega) (by omega) (by simp) | exact S_frz 3 rfl rfl (S_makeFunc rfl) | exact S_call hc rfl | exact S_al rfl | exact S_bx rfl rfl | exact S_store rfl rfl rfl rfl rfl rfl | (apply Pu.ok; repeat' (first | rfl | exact .inK (by simp only [InK]; omega) | exact .wr | constructor | decide | omega)))); constructor) | refine Pa rfl rfl rfl rfl rfl ?_ | refine Po rfl rfl rfl rfl rfl ?_ | fail)
        exact loop_again (k + 1) ⟨hlt, by rw [hbr, ht]⟩ (by omega) (Wk_g some rfl rfl (by (repeat' (first | exact trivial | rfl | exact listLe_map _ | exact ⟨_, rfl, .inl rfl⟩ | exact ⟨_, rfl, .inr (.inl rfl)⟩ | exact ⟨_, rfl, .inr (.inr rfl)⟩ | refine ⟨_, _, rfl, rfl, ?_⟩ | exact ⟨_, rfl, rfl⟩ | exact ⟨_, _, _, _, rfl, rfl, rfl⟩ | exact ⟨_, rfl⟩ | exact ⟨_, _, rfl⟩ | apply And.intro))))
    · rw [if_pos h1] at hbr
      repeat' (first | (apply Wa; constructor) | refine Wb rfl ?_ | refine Wc rfl ?_ | refine Wd (by kernel_rfl) ?_ | refine We rfl ?_ | refine Wf rfl ?_ | refine Wi rfl rfl ?_ | ((first | apply dX rfl | apply Da rfl rfl | apply Db rfl rfl (by intro h; first | trivial | exact ⟨h, trivial⟩ | exact ⟨h, h, trivial⟩)); (focus ((try intro hg); first | exact as_bool (S_lss rfl rfl) (decide_eq_true (by omega : (k : Int) < ((n.bridges.map bridgeV).length : Int))) | exact S_ixM rfl rfl (by omega) hx | exact S_call (plan_bridge b hwb) rfl | exact as_bool (S_eql rfl rfl) (decide_eq_false h1) | exact as_bool (b := true) (S_neq rfl rfl) (by simp [h1]) | exact S_al rfl | exact S_bx rfl rfl | exact S_store rfl rfl rfl rfl rfl rfl | (apply Pu.ok; repeat' (first | rfl | exact .inK (by simp only [InK]; omega) | exact .wr | constructor | decide | omega)))); constructor) | refine Pa rfl rfl rfl rfl rfl ?_ | refine Po rfl rfl rfl rfl rfl ?_ | fail)
      refine retN (.cellA inferInstance rfl rfl rfl rfl (by first | exact .inl rfl | exact .inr (flat_of rfl)) .nil) ?_
      unfold Net.wrong
      rw [if_neg h0, hbr]
      rfl
  · rw [List.drop_eq_nil_of_le (by omega), wrongBr] at hbr
    have hnw : n.wrong = (wrongLk n.bridges.length [] 0 n.links).getD (0, 0) := by unfold Net.wrong; rw [if_neg h0, hbr]
    repeat' (first | (apply Wa; constructor) | refine Wb rfl ?_ | refine Wc rfl ?_ | refine Wd (by kernel_rfl) ?_ | refine We rfl ?_ | refine Wf rfl ?_ | refine Wi rfl rfl ?_ | (apply dt rfl; case h => first | exact S_mkMapK (kt := 0) (et := 0) portV V.bool _ rfl) | ((first | apply dX rfl | apply Da rfl rfl | apply Db rfl rfl (by intro h; first | trivial | exact ⟨h, trivial⟩ | exact ⟨h, h, trivial⟩)); (focus ((try intro hg); first | exact as_bool (S_lss rfl rfl) (decide_eq_false (by omega : ¬ (k : Int) < ((n.bridges.map bridgeV).length : Int))) | exact S_mkMapK (kt := 0) (et := 0) portV V.bool _ rfl | exact S_al rfl | exact S_bx rfl rfl | exact S_store rfl rfl rfl rfl rfl rfl | (apply Pu.ok; repeat' (first | rfl | exact .inK (by simp only [InK]; omega) | exact .wr | constructor | decide | omega)))); constructor) | refine Pa rfl rfl rfl rfl rfl ?_ | refine Po rfl rfl rfl rfl rfl ?_ | fail)
    refine DW_loop (fun p : Nat × List (Int × Int) => ⟨[(1, .ptr 1 0), (2, .ptr 2 0), (5, .mp 49), (52, .dat true (.int .i64 (n.links.map linkV).length)), (53, .dat true (.int .i64 p.1))], [(1, .cells true true (n.cells.map (.dat false))), (2, .cells false true [.dat true (.int .i64 0), .dat true (.int .i64 0)]), (49, .mapb 0 0 (mapK portV V.bool (hadE p.2)))], 101⟩)
      (fun p => p.1 ≤ n.links.length ∧ wrongLk n.bridges.length [] 0 n.links = wrongLk n.bridges.length p.2 p.1 (n.links.drop p.1)) (fun p => n.links.length - p.1) (0, []) ⟨Nat.zero_le _, rfl⟩
      (Wk_g some rfl rfl (by (repeat' (first | exact trivial | rfl | exact listLe_map _ | exact ⟨_, rfl, .inl rfl⟩ | exact ⟨_, rfl, .inr (.inl rfl)⟩ | exact ⟨_, rfl, .inr (.inr rfl)⟩ | refine ⟨_, _, rfl, rfl, ?_⟩ | exact ⟨_, rfl, rfl⟩ | exact ⟨_, _, _, _, rfl, rfl, rfl⟩ | exact ⟨_, rfl⟩ | exact ⟨_, _, rfl⟩ | apply And.intro)))) (fun p hR => ?_)
    obtain ⟨i, had⟩ := p
    obtain ⟨hi, hlk⟩ := hR
    simp only at hi hlk
    dsimp only
    by_cases hli : i < n.links.length
    · have hy : n.links[(i : Int).toNat]? = some n.links[i] := by simp [hli]
      have hm : n.links.drop i = n.links[i] :: n.links.drop (i + 1) := List.drop_eq_getElem_cons hli
      generalize n.links[i] = l at hy hm
      rw [hm, wrongLk] at hlk
      by_cases h1 : l.wrong n.bridges.length = 0
      · rw [if_neg (by simpa using h1)] at hlk
        by_cases h2 : (l.a, l.pa) ∈ had
        · rw [if_pos h2] at hlk
          repeat' (first | refine DW_loopU ?_ | refine DWin_step ?_ | (apply Wa; constructor) | refine Wb rfl ?_ | refine Wc rfl ?_ | refine Wd (by kernel_rfl) ?_ | refine We rfl ?_ | refine Wf rfl ?_ | refine Wi rfl rfl ?_ | ((first | apply dX rfl | apply Da rfl rfl | apply Db rfl rfl (by intro h; first | trivial | exact ⟨h, trivial⟩ | exact ⟨h, h, trivial⟩)); (focus ((try intro hg); first | exact as_bool (S_lss rfl rfl) (decide_eq_true (by omega : (i : Int) < ((n.links.map linkV).length : Int))) | exact S_ixM rfl rfl (by omega) hy | exact S_call (plan_link n l) rfl | exact as_bool (b := false) (S_neq rfl rfl) (by simp [h1]) | exact S_lookHad (p := (l.a, l.pa)) Try.underlying96 (decide_eq_true h2) rfl rfl rfl | exact S_al rfl | exact S_bx rfl rfl | exact S_store rfl rfl rfl rfl rfl rfl | exact S_alloc 2001 rfl | exact S_alloc 2002 rfl | exact S_alloc 2003 rfl | exact S_alloc 2004 rfl | exact S_alloc 2005 rfl | (apply Pu.ok; repeat' (first | rfl | exact .inK (by simp only [InK]; omega) | exact .wr | constructor | decide | omega)))); constructor) | refine Pa rfl rfl rfl rfl rfl ?_ | refine Po rfl rfl rfl rfl rfl ?_ | fail)
          refine retN (.cellA inferInstance rfl rfl rfl rfl (by first | exact .inl rfl | exact .inr (flat_of rfl)) .nil) ?_
          rw [hnw, hlk]
          rfl
        · rw [if_neg h2] at hlk
          by_cases h3 : (l.b, l.pb) ∈ had ++ [(l.a, l.pa)]
          · rw [if_pos h3] at hlk
            repeat' (first | refine DW_loopU ?_ | refine DWin_step ?_ | (apply Wa; constructor) | refine Wb rfl ?_ | refine Wc rfl ?_ | refine Wd (by kernel_rfl) ?_ | refine We rfl ?_ | refine Wf rfl ?_ | refine Wi rfl rfl ?_ | ((first | apply dX rfl | apply Da rfl rfl | apply Db rfl rfl (by intro h; first | trivial | exact ⟨h, trivial⟩ | exact ⟨h, h, trivial⟩)); (focus ((try intro hg); first | exact as_bool (S_lss rfl rfl) (decide_eq_true (by omega : (i : Int) < ((n.links.map linkV).length : Int))) | exact S_ixM rfl rfl (by omega) hy | exact S_call (plan_link n l) rfl | exact as_bool (b := false) (S_neq rfl rfl) (by simp [h1]) | exact S_lookHad (p := (l.a, l.pa)) Try.underlying96 (decide_eq_false h2) rfl rfl rfl | exact S_setHad (p := (l.a, l.pa)) Try.underlying96 h2 rfl rfl rfl rfl | exact S_lookHad (p := (l.b, l.pb)) Try.underlying96 (decide_eq_true h3) rfl rfl rfl | exact S_al rfl | exact S_bx rfl rfl | exact S_store rfl rfl rfl rfl rfl rfl | exact S_alloc 2001 rfl | exact S_alloc 2002 rfl | exact S_alloc 2003 rfl | exact S_alloc 2004 rfl | exact S_alloc 2005 rfl | (apply Pu.ok; repeat' (first | rfl | exact .inK (by simp only [InK]; omega) | exact .wr | constructor | decide | omega)))); constructor) | refine Pa rfl rfl rfl rfl rfl ?_ | refine Po rfl rfl rfl rfl rfl ?_ | fail)
            refine retN (.cellA inferInstance rfl rfl rfl rfl (by first | exact .inl rfl | exact .inr (flat_of rfl)) .nil) ?_
            rw [hnw, hlk]
            rfl
          · rw [if_neg h3] at hlk
            repeat' (first | refine DW_loopU ?_ | refine DWin_step ?_ | (apply Wa; constructor) | refine Wb rfl ?_ | refine Wc rfl ?_ | refine Wd (by kernel_rfl) ?_ | refine We rfl ?_ | refine Wf rfl ?_ | refine Wi rfl rfl ?_ | ((first | apply dX rfl | apply Da rfl rfl | apply Db rfl rfl (by intro h; first | trivial | exact ⟨h, trivial⟩ | exact ⟨h, h, trivial⟩)); (focus ((try intro hg); first | exact as_bool (S_lss rfl rfl) (decide_eq_true (by omega : (i : Int) < ((n.links.map linkV).length : Int))) | exact S_ixM rfl rfl (by omega) hy | exact S_call (plan_link n l) rfl | exact as_bool (b := false) (S_neq rfl rfl) (by simp [h1]) | exact S_lookHad (p := (l.a, l.pa)) Try.underlying96 (decide_eq_false h2) rfl rfl rfl | exact S_setHad (p := (l.a, l.pa)) Try.underlying96 h2 rfl rfl rfl rfl | exact S_lookHad (p := (l.b, l.pb)) Try.underlying96 (decide_eq_false h3) rfl rfl rfl | exact S_setHad (p := (l.b, l.pb)) Try.underlying96 h3 rfl rfl rfl rfl | exact S_al rfl | exact S_bx rfl rfl | exact S_store rfl rfl rfl rfl rfl rfl | exact S_alloc 2001 rfl | exact S_alloc 2002 rfl | exact S_alloc 2003 rfl | exact S_alloc 2004 rfl | exact S_alloc 2005 rfl | (apply Pu.ok; repeat' (first | rfl | exact .inK (by simp only [InK]; omega) | exact .wr | constructor | decide | omega)))); constructor) | refine Pa rfl rfl rfl rfl rfl ?_ | refine Po rfl rfl rfl rfl rfl ?_ | fail)
            exact loop_again (i + 1, had ++ [(l.a, l.pa)] ++ [(l.b, l.pb)]) ⟨hli, hlk⟩ (by simp only; omega) (Wk_g some rfl rfl (by (repeat' (first | exact trivial | rfl | exact listLe_map _ | exact ⟨_, rfl, .inl rfl⟩ | exact ⟨_, rfl, .inr (.inl rfl)⟩ | exact ⟨_, rfl, .inr (.inr rfl)⟩ | refine ⟨_, _, rfl, rfl, ?_⟩ | exact ⟨_, rfl, rfl⟩ | exact ⟨_, _, _, _, rfl, rfl, rfl⟩ | exact ⟨_, rfl⟩ | exact ⟨_, _, rfl⟩ | apply And.intro))))
      · rw [if_pos h1] at hlk
        repeat' (first | (apply Wa; constructor) | refine Wb rfl ?_ | refine Wc rfl ?_ | refine Wd (by kernel_rfl) ?_ | refine We rfl ?_ | refine Wf rfl ?_ | refine Wi rfl rfl ?_ | ((first | apply dX rfl | apply Da rfl rfl | apply Db rfl rfl (by intro h; first | trivial | exact ⟨h, trivial⟩ | exact ⟨h, h, trivial⟩)); (focus ((try intro hg); first | exact as_bool (S_lss rfl rfl) (decide_eq_true (by omega : (i : Int) < ((n.links.map linkV).length : Int))) | exact S_ixM rfl rfl (by omega) hy | exact S_call (plan_link n l) rfl | exact as_bool (b := true) (S_neq rfl rfl) (by simp [h1]) | exact S_al rfl | exact S_bx rfl rfl | exact S_store rfl rfl rfl rfl rfl rfl | (apply Pu.ok; repeat' (first | rfl | exact .inK (by simp only [InK]; omega) | exact .wr | constructor | decide | omega)))); constructor) | refine Pa rfl rfl rfl rfl rfl ?_ | refine Po rfl rfl rfl rfl rfl ?_ | fail)
        refine retN (.cellA inferInstance rfl rfl rfl rfl (by first | exact .inl rfl | exact .inr (flat_of rfl)) .nil) ?_
        rw [hnw, hlk]
        rfl
    · rw [List.drop_eq_nil_of_le (by omega), wrongLk] at hlk
      repeat' (first | (apply Wa; constructor) | refine Wb rfl ?_ | refine Wc rfl ?_ | refine Wd (by kernel_rfl) ?_ | refine We rfl ?_ | refine Wf rfl ?_ | refine Wi rfl rfl ?_ | ((first | apply dX rfl | apply Da rfl rfl | apply Db rfl rfl (by intro h; first | trivial | exact ⟨h, trivial⟩ | exact ⟨h, h, trivial⟩)); (focus ((try intro hg); first | exact as_bool (S_lss rfl rfl) (decide_eq_false (by omega : ¬ (i : Int) < ((n.links.map linkV).length : Int))) | exact S_al rfl | exact S_bx rfl rfl | exact S_store rfl rfl rfl rfl rfl rfl | (apply Pu.ok; repeat' (first | rfl | exact .inK (by simp only [InK]; omega) | exact .wr | constructor | decide | omega)))); constructor) | refine Pa rfl rfl rfl rfl rfl ?_ | refine Po rfl rfl rfl rfl rfl ?_ | fail)
      refine retN (.cellA inferInstance rfl rfl rfl rfl (by first | exact .inl rfl | exact .inr (flat_of rfl)) .nil) ?_
      rw [hnw, hlk]
      rfl
end Go.Proofs.Ytfmaehhloffabaa
namespace Go.Proofs.Ytfmaehhloffabaa
open Go.RowKit
def byteAt (n : Int) (k : Nat) : UInt8 := UInt8.ofNat ((n / 2 ^ (8 * k)).toNat % 256)
theorem byteAt_v {n : Int} (h0 : 0 ≤ n) (k : Nat) : ((byteAt n k).toNat : Int) = (n / 2 ^ (8 * k)) % 256 := by
  unfold byteAt
  have h1 : 0 ≤ n / 2 ^ (8 * k) := Int.ediv_nonneg h0 (Int.pow_nonneg (by decide))
  simp
  omega
theorem wrap_u8 (a : Int) : IntKind.u8.wrap a = a % 256 := by
  simp [IntKind.wrap, IntKind.bits, IntKind.signed]
theorem wrap_u64 (a : Int) : IntKind.u64.wrap a = a % 18446744073709551616 := by
  simp [IntKind.wrap, IntKind.bits, IntKind.signed]
theorem beBytes_shift (n : Int) (_ : 0 ≤ n) (j : Nat) : byteAt (n / 256 ^ j) 0 = byteAt n j := by
  unfold byteAt
  have : (256 : Int) ^ j = 2 ^ (8 * j) := by rw [Int.pow_mul]; rfl
  rw [this]
  simp
attribute [local irreducible] SStep DW DOps thenQ inBlk loopQ retQ retQG FnF FnG Wk IntKind.wrap IntKind.andI IntKind.orI IntKind.xorI IntKind.andNotI IntKind.shlI IntKind.shrI
theorem clone_bytes (l : List UInt8) (hl : l.length ≤ 1099511627776) : FnG Try.prog 97 [.dat false (.slice (l.map byteV))] [] (.own 1000 0 0 l.length) [(1000, .row 0 false true 1 (l.map byteV))] := by
  refine fnG_of Try.func97 rfl rfl rfl ?_
  simp only [envD]
  repeat' (first | refine DW_isnil rfl rfl rfl (fun h => ?_) ?_ | (apply dt rfl; case h => exact S_litO (els := []) _ rfl rfl rfl rfl rfl) | (apply Wa; constructor) | refine Wb rfl ?_ | refine Wc rfl ?_ | refine Wd (by kernel_rfl) ?_ | refine We rfl ?_ | refine Wf rfl ?_ | refine Wi rfl rfl ?_ | ((first | apply dX rfl | apply Da rfl rfl | apply Db rfl rfl (by intro h; first | trivial | exact ⟨h, trivial⟩ | exact ⟨h, h, trivial⟩)); (focus ((try intro hg); first | exact S_appM (f := byteV) (us := []) (bs := l) rfl rfl (.dat _ _) rfl rfl (.inr ⟨rfl, inferInstance⟩) rfl (by simp; omega) | exact S_al rfl | exact S_bx rfl rfl | exact S_store rfl rfl rfl rfl rfl rfl | (apply Pu.ok; repeat' (first | rfl | exact .inK (by simp only [InK]; omega) | exact .wr | constructor | decide | omega)))); constructor) | refine Pa rfl rfl rfl rfl rfl ?_ | refine Po rfl rfl rfl rfl rfl ?_ | fail)
  · have : l = [] := by simpa using h
    subst this
    exact gOwn (Wk_g (fun _ => none) rfl rfl (by (repeat' (first | exact trivial | rfl | exact listLe_map _ | exact ⟨_, rfl, .inl rfl⟩ | exact ⟨_, rfl, .inr (.inl rfl)⟩ | exact ⟨_, rfl, .inr (.inr rfl)⟩ | refine ⟨_, _, rfl, rfl, ?_⟩ | exact ⟨_, rfl, rfl⟩ | exact ⟨_, _, _, _, rfl, rfl, rfl⟩ | exact ⟨_, rfl⟩ | exact ⟨_, _, rfl⟩ | apply And.intro))))
  · exact gOwn (Wk_g (fun g => if g = 1000 then some 5 else none) rfl rfl (by (repeat' (first | exact trivial | rfl | exact listLe_map _ | exact ⟨_, rfl, .inl rfl⟩ | exact ⟨_, rfl, .inr (.inl rfl)⟩ | exact ⟨_, rfl, .inr (.inr rfl)⟩ | refine ⟨_, _, rfl, rfl, ?_⟩ | exact ⟨_, rfl, rfl⟩ | exact ⟨_, _, _, _, rfl, rfl, rfl⟩ | exact ⟨_, rfl⟩ | exact ⟨_, _, rfl⟩ | apply And.intro))))
end Go.Proofs.Ytfmaehhloffabaa
namespace Go.Proofs.Ytfmaehhloffabaa
open Go.RowKit
def u32C (n : Int) : V := .int .u32 n
def u32D (n : Int) : D := .dat true (.int .u32 n)
def intD (n : Int) : D := .dat true (.int .i64 n)
instance : DatI u32D := ⟨fun _ => ⟨_, _, rfl⟩⟩
instance : DatI intD := ⟨fun _ => ⟨_, _, rfl⟩⟩
def md5T : List Int := [3614090360, 3905402710, 606105819, 3250441966, 4118548399, 1200080426, 2821735955, 4249261313,
  1770035416, 2336552879, 4294925233, 2304563134, 1804603682, 4254626195, 2792965006, 1236535329,
  4129170786, 3225465664, 643717713, 3921069994, 3593408605, 38016083, 3634488961, 3889429448,
  568446438, 3275163606, 4107603335, 1163531501, 2850285829, 4243563512, 1735328473, 2368359562,
  4294588738, 2272392833, 1839030562, 4259657740, 2763975236, 1272893353, 4139469664, 3200236656,
  681279174, 3936430074, 3572445317, 76029189, 3654602809, 3873151461, 530742520, 3299628645,
  4096336452, 1126891415, 2878612391, 4237533241, 1700485571, 2399980690, 4293915773, 2240044497,
  1873313359, 4264355552, 2734768916, 1309151649, 4149444226, 3174756917, 718787259, 3951481745]
def md5R : List Int := [7, 12, 17, 22, 5, 9, 14, 20, 4, 11, 16, 23, 6, 10, 15, 21]
def rot (x n : Int) : Int := IntKind.u32.orI (IntKind.u32.shlI x n) (IntKind.u32.shrI x (32 - n))
def n32 (a : Int) : Int := IntKind.u32.xorI 4294967295 a
def md5F (r : Nat) (x y z : Int) : Int := match r with
  | 0 => IntKind.u32.orI (IntKind.u32.andI x y) (IntKind.u32.andI (n32 x) z)
  | 1 => IntKind.u32.orI (IntKind.u32.andI x z) (IntKind.u32.andNotI y z)
  | 2 => IntKind.u32.xorI (IntKind.u32.xorI x y) z
  | _ => IntKind.u32.xorI y (IntKind.u32.orI x (n32 z))
def md5G (r k : Nat) : Nat := match r with
  | 0 => k % 16
  | 1 => (5 * k + 1) % 16
  | 2 => (3 * k + 5) % 16
  | _ => (7 * k) % 16
theorem md5G_lt (r k : Nat) : md5G r k < 16 := by unfold md5G; split <;> omega
def byteN (l : List UInt8) (p : Nat) : Nat := (l.getD p 0).toNat
def wordAt (l : List UInt8) (p : Nat) : Int := byteN l p + byteN l (p + 1) * 256 + byteN l (p + 2) * 65536 + byteN l (p + 3) * 16777216
abbrev St4 := Int × Int × Int × Int
def md5Step (l : List UInt8) (p : Nat) (i : Nat) (v : St4) : St4 :=
  (v.2.2.2, IntKind.u32.wrap (v.2.1 + rot (IntKind.u32.wrap (IntKind.u32.wrap (IntKind.u32.wrap (v.1 + md5F (i / 16) v.2.1 v.2.2.1 v.2.2.2) + md5T.getD i 0) + wordAt l (p + 4 * md5G (i / 16) i))) (md5R.getD (4 * (i / 16) + i % 4) 0)), v.2.1, v.2.2.1)
def md5Steps (l : List UInt8) (p : Nat) : Nat → St4 → St4
  | 0, v => v
  | i + 1, v => md5Step l p i (md5Steps l p i v)
def add4 (v w : St4) : St4 := (IntKind.u32.wrap (v.1 + w.1), IntKind.u32.wrap (v.2.1 + w.2.1), IntKind.u32.wrap (v.2.2.1 + w.2.2.1), IntKind.u32.wrap (v.2.2.2 + w.2.2.2))
def md5Block (l : List UInt8) (p : Nat) (v : St4) : St4 := add4 v (md5Steps l p 64 v)
def md5Blocks (l : List UInt8) : Nat → St4 → St4
  | 0, v => v
  | k + 1, v => md5Block l (64 * k) (md5Blocks l k v)
def leBytes (n : Int) : Nat → List UInt8
  | 0 => []
  | s + 1 => leBytes n s ++ [byteAt n s]
def md5Pad (b : List UInt8) : List UInt8 := b ++ [128] ++ List.replicate ((119 - b.length % 64) % 64) 0 ++ leBytes (8 * b.length) 8
def md5Iv : St4 := (1732584193, 4023233417, 2562383102, 271733878)
def md5Out (v : St4) : List UInt8 := leBytes v.1 4 ++ leBytes v.2.1 4 ++ leBytes v.2.2.1 4 ++ leBytes v.2.2.2 4
def md5S (b : List UInt8) : List UInt8 := md5Out (md5Blocks (md5Pad b) ((md5Pad b).length / 64) md5Iv)
theorem leBytes_len (n : Int) : ∀ s, (leBytes n s).length = s
  | 0 => rfl
  | s + 1 => by simp [leBytes, leBytes_len n s]
theorem md5S_len (b : List UInt8) : (md5S b).length = 16 := by simp [md5S, md5Out, leBytes_len]
attribute [local irreducible] SStep DW DWin DOps thenQ inBlk loopQ retQ retQG FnF FnG Wk IntKind.wrap IntKind.andI IntKind.orI IntKind.xorI IntKind.andNotI IntKind.shlI IntKind.shrI
theorem and_31 : ∀ n : Nat, n < 32 → IntKind.u64.andI (n : Int) 31 = n := by decide +kernel
theorem bits_rot (x : Int) (n : Nat) (h : n < 32) : FnF Try.prog 102 [.int .u32 x, .int .i64 (n : Int)] (.int .u32 (rot x n)) := by
  refine fnF_of Try.func102 rfl rfl rfl ?_
  simp only [envOf]
  have ha := and_31 n h
  repeat' (first | (apply Wa; constructor) | refine Wb rfl ?_ | refine Wc rfl ?_ | refine Wd (by kernel_rfl) ?_ | refine We rfl ?_ | refine Wf rfl ?_ | refine Wi rfl rfl ?_ | ((first | apply dX rfl | apply Da rfl rfl | apply Db rfl rfl (by intro h; first | trivial | exact ⟨h, trivial⟩ | exact ⟨h, h, trivial⟩)); (focus ((try intro hg); first | exact as_int (S_and rfl rfl) ha | exact S_shl rfl rfl (by omega) | exact S_shr rfl rfl (by omega) | exact S_al rfl | exact S_bx rfl rfl | exact S_store rfl rfl rfl rfl rfl rfl | (apply Pu.ok; repeat' (first | rfl | exact .inK (by simp only [InK]; omega) | exact .wr | constructor | decide | omega)))); constructor) | refine Pa rfl rfl rfl rfl rfl ?_ | refine Po rfl rfl rfl rfl rfl ?_ | fail)
  exact ret1 rfl (.inl rfl) rfl
theorem bits_rotI (x n : Int) (h0 : 0 ≤ n) (h1 : n < 32) : FnF Try.prog 102 [.int .u32 x, .int .i64 n] (.int .u32 (rot x n)) := by
  obtain ⟨k, rfl⟩ := Int.eq_ofNat_of_zero_le h0
  exact bits_rot x k (by omega)
theorem md5_turns : FnF Try.prog 101 [] (.agg (md5R.map fun n => .int .i64 n)) := by
  refine fnF_of Try.func101 rfl rfl rfl ?_
  simp only [envOf]
  repeat' (first | (apply Wa; constructor) | refine Wb rfl ?_ | refine Wc rfl ?_ | refine Wd (by kernel_rfl) ?_ | refine We rfl ?_ | refine Wf rfl ?_ | refine Wi rfl rfl ?_ | ((first | apply dX rfl | apply Da rfl rfl | apply Db rfl rfl (by intro h; first | trivial | exact ⟨h, trivial⟩ | exact ⟨h, h, trivial⟩)); (focus ((try intro hg); first | exact S_al rfl | exact S_bx rfl rfl | exact S_store rfl rfl rfl rfl rfl rfl | (apply Pu.ok; repeat' (first | rfl | exact .inK (by simp only [InK]; omega) | exact .wr | constructor | decide | omega)))); constructor) | refine Pa rfl rfl rfl rfl rfl ?_ | refine Po rfl rfl rfl rfl rfl ?_ | fail)
  exact retN (.cellA inferInstance rfl rfl rfl rfl (.inl rfl) .nil) rfl
set_option maxRecDepth 10000 in
theorem md5_table : FnF Try.prog 100 [] (.agg (md5T.map fun n => .int .u32 n)) := by
  refine fnF_of Try.func100 rfl rfl rfl ?_
  simp only [envOf]
  repeat' (first | (apply Wa; constructor) | refine Wb rfl ?_ | refine Wc rfl ?_ | refine Wd (by kernel_rfl) ?_ | refine We rfl ?_ | refine Wf rfl ?_ | refine Wi rfl rfl ?_ | ((first | apply dX rfl | apply Da rfl rfl | apply Db rfl rfl (by intro h; first | trivial | exact ⟨h, trivial⟩ | exact ⟨h, h, trivial⟩)); (focus ((try intro hg); first | exact S_al rfl | exact S_bx rfl rfl | exact S_store rfl rfl rfl rfl rfl rfl | (apply Pu.ok; repeat' (first | rfl | exact .inK (by simp only [InK]; omega) | exact .wr | constructor | decide | omega)))); constructor) | refine Pa rfl rfl rfl rfl rfl ?_ | refine Po rfl rfl rfl rfl rfl ?_ | fail)
  exact retN (.cellA inferInstance rfl rfl rfl rfl (.inl rfl) .nil) rfl
end Go.Proofs.Ytfmaehhloffabaa
