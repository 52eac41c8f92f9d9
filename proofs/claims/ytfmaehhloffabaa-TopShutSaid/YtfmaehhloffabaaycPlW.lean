/- Maps by ports, as sets. -/
import Derived.Test.YtfmaehhloffabaaybLnd
import Derived.ChangeKeysEq
namespace Go.Proofs.Ytfmaehhloffabaa
open Go.RowKit
attribute [local irreducible] SStep DW DWin DOps thenQ inBlk loopQ retQ retQG FnF FnG Wk IntKind.wrap IntKind.andI IntKind.orI IntKind.xorI IntKind.andNotI IntKind.shlI IntKind.shrI Region.wrong
set_option maxHeartbeats 2000000 in
theorem plan_bridge (b : Bridge) (hl : b.region.ways.length ≤ 9223372036854775807) : FnF Try.prog 30 [.rp (bridgeV b)] (.int .i64 b.wrong) := by
  refine fnF_of Try.func30 rfl rfl rfl ?_
  simp only [envOf]
  have hr := region_Wrong b.region hl
  have hml : (b.prios.map intV1).length = b.prios.length := by simp
  by_cases h1 : 281474976710655 < b.addr
  · repeat' (first | (apply Wa; constructor) | refine Wb rfl ?_ | refine Wc rfl ?_ | refine Wd (by kernel_rfl) ?_ | refine We rfl ?_ | refine Wf rfl ?_ | refine Wi rfl rfl ?_ | ((first | apply dX rfl | apply Da rfl rfl | apply Db rfl rfl (by intro h; first | trivial | exact ⟨h, trivial⟩ | exact ⟨h, h, trivial⟩)); (focus ((try intro hg); first | exact as_bool (S_gtr rfl rfl) (decide_eq_true h1) | exact S_al rfl | exact S_bx rfl rfl | exact S_store rfl rfl rfl rfl rfl rfl | (apply Pu.ok; repeat' (first | rfl | exact .inK (by simp only [InK]; omega) | exact .wr | constructor | decide | omega)))); constructor) | refine Pa rfl rfl rfl rfl rfl ?_ | refine Po rfl rfl rfl rfl rfl ?_ | fail)
    refine ret1 rfl (.inl rfl) ?_
    unfold Bridge.wrong
    rw [if_pos h1]
  by_cases h2 : 16 < b.prios.length
  · repeat' (first | (apply Wa; constructor) | refine Wb rfl ?_ | refine Wc rfl ?_ | refine Wd (by kernel_rfl) ?_ | refine We rfl ?_ | refine Wf rfl ?_ | refine Wi rfl rfl ?_ | ((first | apply dX rfl | apply Da rfl rfl | apply Db rfl rfl (by intro h; first | trivial | exact ⟨h, trivial⟩ | exact ⟨h, h, trivial⟩)); (focus ((try intro hg); first | exact as_bool (S_gtr rfl rfl) (decide_eq_false h1) | exact as_bool (S_gtr rfl rfl) (decide_eq_true (by omega : (16 : Int) < ((b.prios.map intV1).length : Int))) | exact S_al rfl | exact S_bx rfl rfl | exact S_store rfl rfl rfl rfl rfl rfl | (apply Pu.ok; repeat' (first | rfl | exact .inK (by simp only [InK]; omega) | exact .wr | constructor | decide | omega)))); constructor) | refine Pa rfl rfl rfl rfl rfl ?_ | refine Po rfl rfl rfl rfl rfl ?_ | fail)
    refine ret1 rfl (.inl rfl) ?_
    unfold Bridge.wrong
    rw [if_neg h1, if_pos h2]
  have hw : b.wrong = if b.prios.any (fun p => decide (prioBad p)) then 3 else b.region.wrong := by unfold Bridge.wrong; rw [if_neg h1, if_neg h2]
  repeat' (first | (apply Wa; constructor) | refine Wb rfl ?_ | refine Wc rfl ?_ | refine Wd (by kernel_rfl) ?_ | refine We rfl ?_ | refine Wf rfl ?_ | refine Wi rfl rfl ?_ | ((first | apply dX rfl | apply Da rfl rfl | apply Db rfl rfl (by intro h; first | trivial | exact ⟨h, trivial⟩ | exact ⟨h, h, trivial⟩)); (focus ((try intro hg); first | exact as_bool (S_gtr rfl rfl) (decide_eq_false h1) | exact as_bool (S_gtr rfl rfl) (decide_eq_false (by omega : ¬ (16 : Int) < ((b.prios.map intV1).length : Int))) | exact S_al rfl | exact S_bx rfl rfl | exact S_store rfl rfl rfl rfl rfl rfl | (apply Pu.ok; repeat' (first | rfl | exact .inK (by simp only [InK]; omega) | exact .wr | constructor | decide | omega)))); constructor) | refine Pa rfl rfl rfl rfl rfl ?_ | refine Po rfl rfl rfl rfl rfl ?_ | fail)
  refine DW_loop (fun k : Nat => ⟨[(0, .dat false (.rp (bridgeV b))), (19, .dat false (.slice (b.prios.map intV1))), (20, .dat true (.int .i64 (b.prios.map intV1).length)), (21, .dat true (.int .i64 k))], [], 42⟩)
    (fun k => k ≤ b.prios.length ∧ b.prios.any (fun p => decide (prioBad p)) = (b.prios.drop k).any (fun p => decide (prioBad p))) (fun k => b.prios.length - k) 0 ⟨Nat.zero_le _, rfl⟩
    (Wk_g some rfl rfl (by (repeat' (first | exact trivial | rfl | exact listLe_map _ | exact ⟨_, rfl, .inl rfl⟩ | exact ⟨_, rfl, .inr (.inl rfl)⟩ | exact ⟨_, rfl, .inr (.inr rfl)⟩ | refine ⟨_, _, rfl, rfl, ?_⟩ | exact ⟨_, rfl, rfl⟩ | exact ⟨_, _, _, _, rfl, rfl, rfl⟩ | exact ⟨_, rfl⟩ | exact ⟨_, _, rfl⟩ | apply And.intro)))) (fun k hR => ?_)
  obtain ⟨hk, ha⟩ := hR
  by_cases hlt : k < b.prios.length
  · have hx : b.prios[(k : Int).toNat]? = some b.prios[k] := by simp [hlt]
    have hn : b.prios.drop k = b.prios[k] :: b.prios.drop (k + 1) := List.drop_eq_getElem_cons hlt
    generalize b.prios[k] = p at hx hn
    rw [hn, List.any_cons] at ha
    repeat' (first | (apply Wa; constructor) | refine Wb rfl ?_ | refine Wc rfl ?_ | refine Wd (by kernel_rfl) ?_ | refine We rfl ?_ | refine Wf rfl ?_ | refine DW_cond rfl (fun hb => ?_) (fun hb => ?_) | refine Wi rfl rfl ?_ | ((first | apply dX rfl | apply Da rfl rfl | apply Db rfl rfl (by intro h; first | trivial | exact ⟨h, trivial⟩ | exact ⟨h, h, trivial⟩)); (focus ((try intro hg); first | exact as_bool (S_lss rfl rfl) (decide_eq_true (by omega : (k : Int) < ((b.prios.map intV1).length : Int))) | exact S_ixM rfl rfl (by omega) hx | exact S_al rfl | exact S_bx rfl rfl | exact S_store rfl rfl rfl rfl rfl rfl | (apply Pu.ok; repeat' (first | rfl | exact .inK (by simp only [InK]; omega) | exact .wr | constructor | decide | omega)))); constructor) | refine Pa rfl rfl rfl rfl rfl ?_ | refine Po rfl rfl rfl rfl rfl ?_ | fail)
    · refine ret1 rfl (.inl rfl) ?_
      simp only [Bool.or_eq_true, decide_eq_true_eq] at hb
      have hp : prioBad p := by unfold prioBad; simp at hb; omega
      rw [hw, ha, decide_eq_true hp]; rfl
    · simp only [Bool.or_eq_false_iff, decide_eq_false_iff_not] at hb
      have hp : ¬ prioBad p := by unfold prioBad; simp at hb; omega
      exact loop_again (k + 1) ⟨hlt, by rw [ha, decide_eq_false hp]; rfl⟩ (by omega) (Wk_g some rfl rfl (by (repeat' (first | exact trivial | rfl | exact listLe_map _ | exact ⟨_, rfl, .inl rfl⟩ | exact ⟨_, rfl, .inr (.inl rfl)⟩ | exact ⟨_, rfl, .inr (.inr rfl)⟩ | refine ⟨_, _, rfl, rfl, ?_⟩ | exact ⟨_, rfl, rfl⟩ | exact ⟨_, _, _, _, rfl, rfl, rfl⟩ | exact ⟨_, rfl⟩ | exact ⟨_, _, rfl⟩ | apply And.intro))))
  · rw [List.drop_eq_nil_of_le (by omega)] at ha
    repeat' (first | (apply Wa; constructor) | refine Wb rfl ?_ | refine Wc rfl ?_ | refine Wd (by kernel_rfl) ?_ | refine We rfl ?_ | refine Wf rfl ?_ | refine Wi rfl rfl ?_ | ((first | apply dX rfl | apply Da rfl rfl | apply Db rfl rfl (by intro h; first | trivial | exact ⟨h, trivial⟩ | exact ⟨h, h, trivial⟩)); (focus ((try intro hg); first | exact as_bool (S_lss rfl rfl) (decide_eq_false (by omega : ¬ (k : Int) < ((b.prios.map intV1).length : Int))) | exact S_call hr rfl | exact S_al rfl | exact S_bx rfl rfl | exact S_store rfl rfl rfl rfl rfl rfl | (apply Pu.ok; repeat' (first | rfl | exact .inK (by simp only [InK]; omega) | exact .wr | constructor | decide | omega)))); constructor) | refine Pa rfl rfl rfl rfl rfl ?_ | refine Po rfl rfl rfl rfl rfl ?_ | fail)
    refine ret1 rfl (.inl rfl) ?_
    rw [hw, ha]; rfl
set_option maxHeartbeats 4000000 in
theorem plan_link (n : Net) (l : Link) : FnF Try.prog 33 [.rp n.cells, .rp (linkV l)] (.int .i64 (l.wrong n.bridges.length)) := by
  refine fnF_of Try.func33 rfl rfl rfl ?_
  simp only [envOf]
  have hml : (n.bridges.map bridgeV).length = n.bridges.length := by simp
  repeat' (first | (apply Wa; constructor) | refine Wb rfl ?_ | refine Wc rfl ?_ | refine Wd (by kernel_rfl) ?_ | refine We rfl ?_ | refine Wf rfl ?_ | refine DW_cond rfl (fun hb => ?_) (fun hb => ?_) | refine Wi rfl rfl ?_ | ((first | apply dX rfl | apply Da rfl rfl | apply Db rfl rfl (by intro h; first | trivial | exact ⟨h, trivial⟩ | exact ⟨h, h, trivial⟩)); (focus ((try intro hg); first | exact S_al rfl | exact S_bx rfl rfl | exact S_store rfl rfl rfl rfl rfl rfl | (apply Pu.ok; repeat' (first | rfl | exact .inK (by simp only [InK]; omega) | exact .wr | constructor | decide | omega)))); constructor) | refine Pa rfl rfl rfl rfl rfl ?_ | refine Po rfl rfl rfl rfl rfl ?_ | fail)
  · refine ret1 rfl (.inl rfl) ?_
    simp only [Bool.or_eq_true, decide_eq_true_eq] at hb
    unfold Link.wrong
    rw [if_pos (by omega)]
  · rename_i h1
    refine ret1 rfl (.inl rfl) ?_
    simp only [Bool.or_eq_false_iff, decide_eq_true_eq, decide_eq_false_iff_not] at h1 hb
    unfold Link.wrong
    rw [if_neg (by omega), if_pos (by omega)]
  · rename_i h1 h2
    refine ret1 rfl (.inl rfl) ?_
    simp only [Bool.or_eq_true, Bool.or_eq_false_iff, decide_eq_true_eq, decide_eq_false_iff_not] at h1 h2 hb
    unfold Link.wrong
    rw [if_neg (by omega), if_neg (by omega), if_pos (by omega)]
  · rename_i h1 h2
    refine ret1 rfl (.inl rfl) ?_
    simp only [Bool.or_eq_false_iff, decide_eq_false_iff_not] at h1 h2 hb
    unfold Link.wrong
    rw [if_neg (by omega), if_neg (by omega), if_neg (by omega)]
theorem wrong_fn (n : Net) (i : Nat) (b o : Bridge) (hx : n.bridges[i]? = some b) : FnF Try.prog 32 [.agg (bridgeV o), .rp n.cells, .rp [.int .i64 i]] (.bool (decide (o.addr = b.addr))) := by
  refine fnF_of Try.func32 rfl rfl rfl ?_
  simp only [envOf]
  have hx' : n.bridges[(i : Int).toNat]? = some b := hx
  repeat' (first | (apply Wa; constructor) | refine Wb rfl ?_ | refine Wc rfl ?_ | refine Wd (by kernel_rfl) ?_ | refine We rfl ?_ | refine Wf rfl ?_ | refine Wi rfl rfl ?_ | ((first | apply dX rfl | apply Da rfl rfl | apply Db rfl rfl (by intro h; first | trivial | exact ⟨h, trivial⟩ | exact ⟨h, h, trivial⟩)); (focus ((try intro hg); first | exact S_ixM rfl rfl (by omega) hx' | exact S_al rfl | exact S_bx rfl rfl | exact S_store rfl rfl rfl rfl rfl rfl | (apply Pu.ok; repeat' (first | rfl | exact .inK (by simp only [InK]; omega) | exact .wr | constructor | decide | omega)))); constructor) | refine Pa rfl rfl rfl rfl rfl ?_ | refine Po rfl rfl rfl rfl rfl ?_ | fail)
  refine ret1 rfl (.inl rfl) ?_
  simp
theorem br_IndexFunc (l : List Bridge) (f : FuncId) (cap : List V) (p : Bridge → Bool) (hf : ∀ b, FnF Try.prog f (.agg (bridgeV b) :: cap) (.bool (p b))) : FnF Try.prog 53 [.slice (l.map bridgeV), .fn f cap] (.int .i64 (if l.any p then (l.findIdx p : Int) else -1)) := by
  refine fnF_of Try.func53 rfl rfl rfl ?_
  simp only [envOf]
  refine DW_len 0 rfl (fun hlen => ?_)
  have hml : (l.map bridgeV).length = l.length := by simp
  repeat' (first | (apply Wa; constructor) | refine Wb rfl ?_ | refine Wc rfl ?_ | refine Wd (by kernel_rfl) ?_ | refine We rfl ?_ | refine Wf rfl ?_ | refine Wi rfl rfl ?_ | ((first | apply dX rfl | apply Da rfl rfl | apply Db rfl rfl (by intro h; first | trivial | exact ⟨h, trivial⟩ | exact ⟨h, h, trivial⟩)); (focus ((try intro hg); first | exact S_al rfl | exact S_bx rfl rfl | exact S_store rfl rfl rfl rfl rfl rfl | (apply Pu.ok; repeat' (first | rfl | exact .inK (by simp only [InK]; omega) | exact .wr | constructor | decide | omega)))); constructor) | refine Pa rfl rfl rfl rfl rfl ?_ | refine Po rfl rfl rfl rfl rfl ?_ | fail)
  refine DW_loop (fun k : Nat => ⟨[(0, .dat false (.slice (l.map bridgeV))), (1, .dat false (.fn f cap)), (7, .dat true (.int .i64 (l.map bridgeV).length)), (8, .dat true (.int .i64 k))], [], 19⟩)
    (fun k => k ≤ l.length ∧ (l.take k).any p = false) (fun k => l.length - k) 0 ⟨Nat.zero_le _, by simp⟩
    (Wk_g some rfl rfl (by (repeat' (first | exact trivial | rfl | exact listLe_map _ | exact ⟨_, rfl, .inl rfl⟩ | exact ⟨_, rfl, .inr (.inl rfl)⟩ | exact ⟨_, rfl, .inr (.inr rfl)⟩ | refine ⟨_, _, rfl, rfl, ?_⟩ | exact ⟨_, rfl, rfl⟩ | exact ⟨_, _, _, _, rfl, rfl, rfl⟩ | exact ⟨_, rfl⟩ | exact ⟨_, _, rfl⟩ | apply And.intro)))) (fun k hR => ?_)
  obtain ⟨hk, ha⟩ := hR
  by_cases hlt : k < l.length
  · have hx : l[(k : Int).toNat]? = some l[k] := by simp [hlt]
    have hx' : l[k]? = some l[k] := by simp [hlt]
    have hfb := hf l[k]
    generalize l[k] = b at hx hx' hfb
    have ht : l.take (k + 1) = l.take k ++ [b] := by rw [List.take_add_one, hx']; rfl
    cases hp : p b with
    | true =>
      rw [hp] at hfb
      repeat' (first | (apply Wa; constructor) | refine Wb rfl ?_ | refine Wc rfl ?_ | refine Wd (by kernel_rfl) ?_ | refine We rfl ?_ | refine Wf rfl ?_ | refine Wi rfl rfl ?_ | ((first | apply dX rfl | apply Da rfl rfl | apply Db rfl rfl (by intro h; first | trivial | exact ⟨h, trivial⟩ | exact ⟨h, h, trivial⟩)); (focus ((try intro hg); first | exact as_bool (S_lss rfl rfl) (decide_eq_true (by omega : (k : Int) < ((l.map bridgeV).length : Int))) | exact S_ixM rfl rfl (by omega) hx | exact S_callv rfl rfl hfb | exact S_al rfl | exact S_bx rfl rfl | exact S_store rfl rfl rfl rfl rfl rfl | (apply Pu.ok; repeat' (first | rfl | exact .inK (by simp only [InK]; omega) | exact .wr | constructor | decide | omega)))); constructor) | refine Pa rfl rfl rfl rfl rfl ?_ | refine Po rfl rfl rfl rfl rfl ?_ | fail)
      refine ret1 rfl (.inl rfl) ?_
      have hany : l.any p = true := List.any_eq_true.2 ⟨b, List.mem_of_getElem? hx', hp⟩
      rw [if_pos hany]
      have : l.findIdx p = k := by
        rw [List.findIdx_eq hlt]
        refine ⟨?_, fun j hj => ?_⟩
        · have : l[k] = b := (List.getElem?_eq_some_iff.1 hx').2
          rw [this]; exact hp
        · have := List.any_eq_false.1 ha (l[j]) (by rw [List.mem_take_iff_getElem]; exact ⟨j, by omega, rfl⟩)
          simpa using this
      rw [this]
    | false =>
      rw [hp] at hfb
      repeat' (first | (apply Wa; constructor) | refine Wb rfl ?_ | refine Wc rfl ?_ | refine Wd (by kernel_rfl) ?_ | refine We rfl ?_ | refine Wf rfl ?_ | refine Wi rfl rfl ?_ | ((first | apply dX rfl | apply Da rfl rfl | apply Db rfl rfl (by intro h; first | trivial | exact ⟨h, trivial⟩ | exact ⟨h, h, trivial⟩)); (focus ((try intro hg); first | exact as_bool (S_lss rfl rfl) (decide_eq_true (by omega : (k : Int) < ((l.map bridgeV).length : Int))) | exact S_ixM rfl rfl (by omega) hx | exact S_callv rfl rfl hfb | exact S_al rfl | exact S_bx rfl rfl | exact S_store rfl rfl rfl rfl rfl rfl | (apply Pu.ok; repeat' (first | rfl | exact .inK (by simp only [InK]; omega) | exact .wr | constructor | decide | omega)))); constructor) | refine Pa rfl rfl rfl rfl rfl ?_ | refine Po rfl rfl rfl rfl rfl ?_ | fail)
      exact loop_again (k + 1) ⟨hlt, by rw [ht, List.any_append, ha]; simp [hp]⟩ (by omega) (Wk_g some rfl rfl (by (repeat' (first | exact trivial | rfl | exact listLe_map _ | exact ⟨_, rfl, .inl rfl⟩ | exact ⟨_, rfl, .inr (.inl rfl)⟩ | exact ⟨_, rfl, .inr (.inr rfl)⟩ | refine ⟨_, _, rfl, rfl, ?_⟩ | exact ⟨_, rfl, rfl⟩ | exact ⟨_, _, _, _, rfl, rfl, rfl⟩ | exact ⟨_, rfl⟩ | exact ⟨_, _, rfl⟩ | apply And.intro))))
  · rw [List.take_of_length_le (by omega)] at ha
    repeat' (first | (apply Wa; constructor) | refine Wb rfl ?_ | refine Wc rfl ?_ | refine Wd (by kernel_rfl) ?_ | refine We rfl ?_ | refine Wf rfl ?_ | refine Wi rfl rfl ?_ | ((first | apply dX rfl | apply Da rfl rfl | apply Db rfl rfl (by intro h; first | trivial | exact ⟨h, trivial⟩ | exact ⟨h, h, trivial⟩)); (focus ((try intro hg); first | exact as_bool (S_lss rfl rfl) (decide_eq_false (by omega : ¬ (k : Int) < ((l.map bridgeV).length : Int))) | exact S_al rfl | exact S_bx rfl rfl | exact S_store rfl rfl rfl rfl rfl rfl | (apply Pu.ok; repeat' (first | rfl | exact .inK (by simp only [InK]; omega) | exact .wr | constructor | decide | omega)))); constructor) | refine Pa rfl rfl rfl rfl rfl ?_ | refine Po rfl rfl rfl rfl rfl ?_ | fail)
    refine ret1 rfl (.inl rfl) ?_
    rw [if_neg (by rw [ha]; simp)]
theorem br_ContainsFunc (l : List Bridge) (f : FuncId) (cap : List V) (p : Bridge → Bool) (hf : ∀ b, FnF Try.prog f (.agg (bridgeV b) :: cap) (.bool (p b))) : FnF Try.prog 31 [.slice (l.map bridgeV), .fn f cap] (.bool (l.any p)) := by
  refine fnF_of Try.func31 rfl rfl rfl ?_
  simp only [envOf]
  repeat' (first | (apply Wa; constructor) | refine Wb rfl ?_ | refine Wc rfl ?_ | refine Wd (by kernel_rfl) ?_ | refine We rfl ?_ | refine Wf rfl ?_ | refine Wi rfl rfl ?_ | ((first | apply dX rfl | apply Da rfl rfl | apply Db rfl rfl (by intro h; first | trivial | exact ⟨h, trivial⟩ | exact ⟨h, h, trivial⟩)); (focus ((try intro hg); first | exact S_call (br_IndexFunc l f cap p hf) rfl | exact S_al rfl | exact S_bx rfl rfl | exact S_store rfl rfl rfl rfl rfl rfl | (apply Pu.ok; repeat' (first | rfl | exact .inK (by simp only [InK]; omega) | exact .wr | constructor | decide | omega)))); constructor) | refine Pa rfl rfl rfl rfl rfl ?_ | refine Po rfl rfl rfl rfl rfl ?_ | fail)
  refine ret1 rfl (.inl rfl) ?_
  congr 1
  split
  · rename_i h
    rw [h, decide_eq_true_iff]; omega
  · rename_i h
    rw [Bool.eq_false_iff.2 h, decide_eq_false_iff_not]; omega
end Go.Proofs.Ytfmaehhloffabaa
namespace Go.Proofs.Ytfmaehhloffabaa
open Go.RowKit
theorem eqL_port (a b : Int × Int) : eqL (portV a) (portV b) = some (decide (a = b)) := by
  obtain ⟨a1, a2⟩ := a
  obtain ⟨b1, b2⟩ := b
  by_cases h : (a1, a2) = (b1, b2)
  · rw [decide_eq_true h]
    injection h with h1 h2
    subst h1 h2
    simp [portV, eqL, V.eq1]
  · rw [decide_eq_false h]
    simp only [portV, eqL, V.eq1]
    simp at h ⊢
    omega
theorem port_chk (w : World) (e : Bool) (a b : Int) : (Instr.checkKey e 10000 100 (.agg #[.int .i64 a, .int .i64 b])).run Try.prog w = .ok () w := by
  have hu := Try.underlying100
  have hi := Try.underlying3
  have hp : Try.prog.plainKey 3 = true := by simp [Program.plainKey, hi]
  have p0 : (part 3 #[.int .i64 a, .int .i64 b] 0).run Try.prog w = .ok (.int .i64 a) w := run_part_plain w hp rfl
  have p1 : (part 3 #[.int .i64 a, .int .i64 b] 1).run Try.prog w = .ok (.int .i64 b) w := run_part_plain w hp rfl
  have c0 : ∀ x : Int, (Instr.checkKey e 9999 3 (.int .i64 x)).run Try.prog w = .ok () w := fun x => by
    rw [show (9999 : Nat) = 9998 + 1 from rfl, Instr.checkKey]; simp [run_under hi]
  rw [show (10000 : Nat) = 9999 + 1 from rfl, Instr.checkKey]
  simp only [Sem.run_bind, run_under hu, Result.andThen_ok]
  simp [p0, p1, c0]
instance portKey : KeyI Try.prog 100 portV [1, 1] where
  q := inferInstance
  codes := fun _ => rfl
  eq := eqL_port
  chk := fun p S e w v h => by
    obtain ⟨a, b⟩ := p
    cases h with
    | agg _ vs hl hr =>
      obtain ⟨xs⟩ := vs
      match xs, hl, hr with
      | [x, y], _, hr =>
        have h0 := hr 0 (.int .i64 a) x rfl rfl
        have h1 := hr 1 (.int .i64 b) y rfl rfl
        rw [rv_int h0, rv_int h1]
        exact port_chk w e a b
  flat := fun p => .agg _ (fun j d h => by
    obtain ⟨a, b⟩ := p
    have := List.mem_of_getElem? h
    simp only [portV, List.mem_cons, List.mem_nil_iff, or_false] at this
    rcases this with rfl | rfl <;> exact .int _ _)
  now := ⟨_, Try.underlying100, fun _ _ => rfl⟩
def hadE (had : List (Int × Int)) : List ((Int × Int) × Bool) := had.map fun p => (p, true)
theorem lookK_had {had : List (Int × Int)} {p : Int × Int} : lookK (hadE had) p = if p ∈ had then some true else none := by
  induction had with
  | nil => rfl
  | cons q r ih =>
    unfold lookK hadE at *
    rw [List.map_cons]
    by_cases h : p = q
    · rw [List.find?_cons_of_pos (by simpa using h), if_pos (by simp [h])]; rfl
    · rw [List.find?_cons_of_neg (by simpa using h), ih]
      simp [h]
section
variable {P : Program} {e : Operand → D} {m : Mem} {dst : Option Tmp} {ty : TypeId} {pos : String} {af : Array Edge} {gd : Option (Nat × Bool)} {x y z : Operand} {t : TypeId}
theorem S_lookHad {g : Nat} {kt' et' : TypeId} {n : Bool} {p : Int × Int} {had : List (Int × Int)} {b : Bool} {kt et : TypeId} [hk : KeyI P kt portV [1, 1]] (hu : P.underlying t = some (.map kt et)) {by_ : Nat} [hz : TyI P et false 1 by_ [.bool false]]
    (hb : decide (p ∈ had) = b) (h1 : e x = .mp g) (hmg : m.at g = .mapb kt' et' (mapK portV V.bool (hadE had))) (h2 : asV m (e y) = some (n, .agg (portV p))) :
    SStep P ⟨dst, .lookup t x y false, ty, pos, af, gd⟩ e m (g :: refs m (e y)) (.dat true (.bool b)) [] := by
  have := S_lookupK (P := P) (b0 := false) (h := V.bool) (f := portV) (dst := dst) (ty := ty) (pos := pos) (af := af) (gd := gd) hu rfl h1 hmg h2
  have e2 : (lookK (hadE had) p).getD false = b := by
    rw [lookK_had, ← hb]
    by_cases h : p ∈ had
    · rw [if_pos h, decide_eq_true h]; rfl
    · rw [if_neg h, decide_eq_false h]; rfl
  rw [e2] at this
  exact this
theorem S_setHad {g : Nat} {n1 n2 : Bool} {p : Int × Int} {had : List (Int × Int)} {kt' et' kt et : TypeId} [hk : KeyI P kt portV [1, 1]] (hu : P.underlying t = some (.map kt et)) (hb : p ∉ had)
    (h1 : e x = .mp g) (hmg : m.at g = .mapb kt' et' (mapK portV V.bool (hadE had))) (h2 : asV m (e y) = some (n1, .agg (portV p))) (h3 : e z = .dat n2 (.bool true)) :
    SStep P ⟨none, .mapUpdate t x y z, ty, pos, af, gd⟩ e m (g :: refs m (e y)) .any [(g, .mapb kt' et' (mapK portV V.bool (hadE (had ++ [p]))))] := by
  have := S_setK (P := P) (h := V.bool) (f := portV) (b := true) (ty := ty) (pos := pos) (af := af) (gd := gd) hu h1 hmg h2 h3 (.bool _) (by rw [lookK_had, if_neg hb])
  have e2 : hadE had ++ [(p, true)] = hadE (had ++ [p]) := by simp [hadE]
  rw [e2] at this
  exact this
end
end Go.Proofs.Ytfmaehhloffabaa
