/- Contract: plan.Ends. -/
import Derived.Test.YtfmaehhloffabaaycChM
namespace Go.Proofs.Ytfmaehhloffabaa
open Go.RowKit
attribute [local irreducible] SStep DW DWin DOps thenQ inBlk loopQ retQ retQG FnF FnG FnI Wk IntKind.wrap IntKind.andI IntKind.orI IntKind.xorI IntKind.andNotI IntKind.shlI IntKind.shrI Region.wrong Bridge.wrong Link.wrong Bridge.prio identR sortE rawE famX ctrD famM idsR srtX liveB
theorem set_get {xs : List (List End)} {A : Nat} {d : D} (h : A < xs.length) : ((ctrD xs).set A d)[((A : Nat) : Int).toNat * 1]? = some d := by
  rw [Int.toNat_natCast, Nat.mul_one, List.getElem?_set_self (by rw [ctrD_len]; exact h)]
theorem set_ble {xs : List (List End)} {A : Nat} {d : D} (h : A < xs.length) : Nat.ble (((A : Nat) : Int).toNat * 1 + 1) ((ctrD xs).set A d).length = true := by
  apply Nat.ble_eq_true_of_le
  rw [Int.toNat_natCast, List.length_set, ctrD_len]; omega
theorem set_splice {xs : List (List End)} {A : Nat} {d d' : D} (h : A < xs.length) : splice ((ctrD xs).set A d) (((A : Nat) : Int).toNat * 1) [d'] = (ctrD xs).set A d' := by
  rw [Int.toNat_natCast, Nat.mul_one, splice_set (by rw [List.length_set, ctrD_len]; exact h), List.set_set]
set_option maxHeartbeats 4000000 in
theorem plan_EndsH (n : Net) (hlk : ∀ l ∈ n.links, l.ok n.bridges.length) (hn : n.links.length ≤ 40) (hb12 : n.bridges.length ≤ 12)
    (hs : ∀ i < n.bridges.length, FnI Try.prog 35 [.own 1000 0 0 (rawE (liveL n) i).length, .dat false (.fn 36 [])] [(1000, .row 0 false true 4 ((rawE (liveL n) i).map endV))] [(1000, .row 0 false true 4 ((sortE (rawE (liveL n) i)).map endV))]) :
    FnF Try.prog 18 [.rp n.cells, .slice ((idsR n.bridges).map bytesR)] (.slice (((List.range n.bridges.length).map (endsOf n)).map endsRow)) := by
  refine fnF_of Try.func18 rfl rfl rfl ?_
  simp only [envOf]
  rw [← ends_all]
  obtain ⟨nb, hnb⟩ : ∃ nb, nb = n.bridges.length := ⟨_, rfl⟩
  rw [← hnb] at hlk hs hb12 ⊢
  have hmb : (n.bridges.map bridgeV).length = nb := by simp [hnb]
  have hml : (n.links.map linkV).length = n.links.length := by simp
  have hidl : (idsR n.bridges).length = nb := by unfold idsR; simp [hnb]
  repeat' (first | (apply dt rfl; case h => exact S_mkC (l := nb) _ rfl rfl (by rw [hmb]) (by rw [hmb]) (by omega) rfl) | (apply Wa; constructor) | refine Wb rfl ?_ | refine Wc rfl ?_ | refine Wd (by kernel_rfl) ?_ | refine We rfl ?_ | refine Wf rfl ?_ | refine Wi rfl rfl ?_ | ((first | apply dX rfl | apply Da rfl rfl | apply Db rfl rfl (by intro h; first | trivial | exact ⟨h, trivial⟩ | exact ⟨h, h, trivial⟩)); (focus ((try intro hg); first | exact S_al rfl | exact S_bx rfl rfl | exact S_store rfl rfl rfl rfl rfl rfl | (apply Pu.ok; repeat' (first | rfl | exact .inK (by simp only [InK]; omega) | exact .wr | constructor | decide | omega)))); constructor) | refine Pa rfl rfl rfl rfl rfl ?_ | refine Po rfl rfl rfl rfl rfl ?_ | fail)
  have hx0 := famX_nil nb
  refine DW_loop (fun k : Nat => ⟨[(0, .dat false (.rp n.cells)), (1, .dat false (.slice ((idsR n.bridges).map bytesR))), (5, .sl 950 nb), (19, .dat false (.slice (n.links.map linkV))), (20, .dat true (.int .i64 (n.links.map linkV).length)), (21, .dat true (.int .i64 k))], famS endV 4 [] (famX nb ((n.links.take k).filter (liveB n.bridges))), 93⟩)
    (fun k => k ≤ n.links.length) (fun k => n.links.length - k) 0 (Nat.zero_le _)
    (by
      show Wk _ ⟨_, famS endV 4 [] (famX nb []), 93⟩
      rw [hx0]
      exact Wk_famNew endV 4 15 (by decide) rfl rfl rfl (by (repeat' (first | exact trivial | rfl | exact listLe_map _ | exact ⟨_, rfl, .inl rfl⟩ | exact ⟨_, rfl, .inr (.inl rfl)⟩ | exact ⟨_, rfl, .inr (.inr rfl)⟩ | refine ⟨_, _, rfl, rfl, ?_⟩ | exact ⟨_, rfl, rfl⟩ | exact ⟨_, _, _, _, rfl, rfl, rfl⟩ | exact ⟨_, rfl⟩ | exact ⟨_, _, rfl⟩ | apply And.intro))) (by (repeat' (first | exact trivial | rfl | exact listLe_map _ | exact ⟨_, rfl, .inl rfl⟩ | exact ⟨_, rfl, .inr (.inl rfl)⟩ | exact ⟨_, rfl, .inr (.inr rfl)⟩ | refine ⟨_, _, rfl, rfl, ?_⟩ | exact ⟨_, rfl, rfl⟩ | exact ⟨_, _, _, _, rfl, rfl, rfl⟩ | exact ⟨_, rfl⟩ | exact ⟨_, _, rfl⟩ | apply And.intro)))) (fun k hk => ?_)
  by_cases hlt : k < n.links.length
  · have hx : n.links[(k : Int).toNat]? = some n.links[k] := by simp [hlt]
    have hl := hlk n.links[k] (List.getElem_mem hlt)
    have hst := live_take (bs := n.bridges) (show n.links[k]? = some n.links[k] by simp [hlt])
    have hle := live_le n k
    generalize n.links[k] = l at hx hl hst
    have hxa : (idsR n.bridges)[l.a.toNat]? = some ((idsR n.bridges)[l.a.toNat]'(by have := hl.a1; have := hl.a0; omega)) := List.getElem?_eq_getElem _
    have hxb : (idsR n.bridges)[l.b.toNat]? = some ((idsR n.bridges)[l.b.toNat]'(by have := hl.b1; have := hl.b0; omega)) := List.getElem?_eq_getElem _
    generalize (idsR n.bridges)[l.a.toNat]'(by have := hl.a1; have := hl.a0; omega) = ra at hxa
    generalize (idsR n.bridges)[l.b.toNat]'(by have := hl.b1; have := hl.b0; omega) = rb at hxb
    have hbe := bytes_Equal ra rb
    have hlv : liveB n.bridges l = (l.up && decide (ra = rb)) := by with_unfolding_all (unfold liveB; rw [hxa, hxb]; simp)
    rw [hlv] at hst
    generalize (n.links.take k).filter (liveB n.bridges) = ls at hst hle
    have hstep := famX_step (ls := ls) hl
    obtain ⟨a, pa, b, pb, cost, up⟩ := l
    cases up with
    | false =>
      simp only [Bool.false_and, Bool.false_eq_true, if_false, List.append_nil] at hst
      repeat' (first | (apply dt rfl; case h => exact S_alloc _ (famS_lo endV 4 (by decide) rfl)) | (apply Wa; constructor) | refine Wb rfl ?_ | refine Wc rfl ?_ | refine Wd (by kernel_rfl) ?_ | refine We rfl ?_ | refine Wf rfl ?_ | refine Wi rfl rfl ?_ | ((first | apply dX rfl | apply Da rfl rfl | apply Db rfl rfl (by intro h; first | trivial | exact ⟨h, trivial⟩ | exact ⟨h, h, trivial⟩)); (focus ((try intro hg); first | exact as_bool (S_lss rfl rfl) (decide_eq_true (by omega : (k : Int) < ((n.links.map linkV).length : Int))) | exact S_ixM rfl rfl (by omega) hx | exact S_al rfl | exact S_bx rfl rfl | exact S_store rfl rfl rfl rfl rfl rfl | (apply Pu.ok; repeat' (first | rfl | exact .inK (by simp only [InK]; omega) | exact .wr | constructor | decide | omega)))); constructor) | refine Pa rfl rfl rfl rfl rfl ?_ | refine Po rfl rfl rfl rfl rfl ?_ | fail)
      refine loop_again (k + 1) hlt (by omega) ?_
      rw [hst]
      refine Wk_famId endV 4 rfl rfl ?_ (fun k r h => ?_) ?_ ?_
      · exact famS_950 endV 4 rfl
      · simp (discharger := decide) only [mem_hi]
        exact famS_row endV 4 rfl h
      · (repeat' (first | exact trivial | rfl | exact listLe_map _ | exact ⟨_, rfl, .inl rfl⟩ | exact ⟨_, rfl, .inr (.inl rfl)⟩ | exact ⟨_, rfl, .inr (.inr rfl)⟩ | refine ⟨_, _, rfl, rfl, ?_⟩ | exact ⟨_, rfl, rfl⟩ | exact ⟨_, _, _, _, rfl, rfl, rfl⟩ | exact ⟨_, rfl⟩ | exact ⟨_, _, rfl⟩ | apply And.intro))
      · (repeat' (first | exact trivial | rfl | exact listLe_map _ | exact ⟨_, rfl, .inl rfl⟩ | exact ⟨_, rfl, .inr (.inl rfl)⟩ | exact ⟨_, rfl, .inr (.inr rfl)⟩ | refine ⟨_, _, rfl, rfl, ?_⟩ | exact ⟨_, rfl, rfl⟩ | exact ⟨_, _, _, _, rfl, rfl, rfl⟩ | exact ⟨_, rfl⟩ | exact ⟨_, _, rfl⟩ | apply And.intro))
    | true =>
      simp only [Bool.true_and, decide_eq_true_eq] at hst
      by_cases hr : ra = rb
      · subst hr
        rw [if_pos rfl] at hst
        rw [decide_eq_true rfl] at hbe
        obtain ⟨A, rfl⟩ : ∃ A : Nat, a = (A : Int) := ⟨a.toNat, by have := hl.a0; simp only at this; omega⟩
        obtain ⟨B, rfl⟩ : ∃ B : Nat, b = (B : Int) := ⟨b.toNat, by have := hl.b0; simp only at this; omega⟩
        have hAn : A < nb := by have := hl.a1; simp only at this; omega
        have hBn : B < nb := by have := hl.b1; simp only at this; omega
        have hAB : A ≠ B := by have := hl.ne; simp only at this; omega
        simp only [Int.toNat_natCast] at hstep
        have gA : (famX nb ls)[A]? = some (rawE ls A) := famX_get hAn
        have gB : (famX nb ls)[B]? = some (rawE ls B) := famX_get hBn
        have lA := rawE_le ls A
        have lB := rawE_le ls B
        have hXl : (famX nb ls).length = nb := famX_len nb ls
        generalize rawE ls A = RA at gA lA hstep
        generalize rawE ls B = RB at gB lB hstep
        generalize famX nb ls = X at gA gB hXl hstep
        refine DW_famTake endV 4 (env' := [(0, .dat false (.rp n.cells)), (1, .dat false (.slice ((idsR n.bridges).map bytesR))), (5, .sl 950 nb), (19, .dat false (.slice (n.links.map linkV))), (20, .dat true (.int .i64 (n.links.map linkV).length)), (21, .dat true (.int .i64 k))]) (pre' := []) A gA rfl rfl rfl (fun T => by (repeat' (first | exact trivial | rfl | exact listLe_map _ | exact ⟨_, rfl, .inl rfl⟩ | exact ⟨_, rfl, .inr (.inl rfl)⟩ | exact ⟨_, rfl, .inr (.inr rfl)⟩ | refine ⟨_, _, rfl, rfl, ?_⟩ | exact ⟨_, rfl, rfl⟩ | exact ⟨_, _, _, _, rfl, rfl, rfl⟩ | exact ⟨_, rfl⟩ | exact ⟨_, _, rfl⟩ | apply And.intro))) (fun T => by (repeat' (first | exact trivial | rfl | exact listLe_map _ | exact ⟨_, rfl, .inl rfl⟩ | exact ⟨_, rfl, .inr (.inl rfl)⟩ | exact ⟨_, rfl, .inr (.inr rfl)⟩ | refine ⟨_, _, rfl, rfl, ?_⟩ | exact ⟨_, rfl, rfl⟩ | exact ⟨_, _, _, _, rfl, rfl, rfl⟩ | exact ⟨_, rfl⟩ | exact ⟨_, _, rfl⟩ | apply And.intro))) (fun T hT0 hT => ?_)
        have hg := set_get (xs := X) (d := .own 960 0 0 RA.length) (A := A) (by omega)
        have hb := set_ble (xs := X) (d := .own 960 0 0 RA.length) (A := A) (by omega)
        have hsp := set_splice (xs := X) (d := .own 960 0 0 RA.length) (d' := .own 960 1 0 (RA ++ [(⟨pa, cost, B, pb⟩ : End)]).length) (A := A) (by omega)
        generalize (ctrD X).set A (.own 960 0 0 RA.length) = CS at hg hb hsp
        dsimp only [List.nil_append]
        repeat' (first | refine DW_mark 960 (bx := .row 1 false true 4 ((RA ++ [(⟨pa, cost, B, pb⟩ : End)]).map endV)) rfl ?_ | (apply dt rfl; case h => exact S_alloc _ (hT0 _ (by decide))) | (apply Wa; constructor) | refine Wb rfl ?_ | refine Wc rfl ?_ | refine Wd (by kernel_rfl) ?_ | refine We rfl ?_ | refine Wf rfl ?_ | refine Wi rfl rfl ?_ | ((first | apply dX rfl | apply Da rfl rfl | apply Db rfl rfl (by intro h; first | trivial | exact ⟨h, trivial⟩ | exact ⟨h, h, trivial⟩)); (focus ((try intro hg); first | exact as_bool (S_lss rfl rfl) (decide_eq_true (by omega : (k : Int) < ((n.links.map linkV).length : Int))) | exact S_ixM rfl rfl (by omega) hx | exact S_ixM (f := bytesR) rfl rfl hl.a0 hxa | exact S_ixM (f := bytesR) rfl rfl hl.b0 hxb | exact S_call hbe rfl | exact S_ix_sl rfl rfl hl.a0 hl.a1 | exact S_load_ptr (d := .own 960 0 0 RA.length) rfl rfl hg | exact S_appM (f := endV) (us := RA) (bs := [(⟨pa, cost, B, pb⟩ : End)]) rfl rfl (.dat _ _) rfl rfl (.inr ⟨rfl, inferInstance⟩) rfl (by simp only [List.length_singleton]; omega) | exact S_store rfl rfl rfl rfl rfl hb | exact S_al rfl | exact S_bx rfl rfl | exact S_store rfl rfl rfl rfl rfl rfl | (apply Pu.ok; repeat' (first | rfl | exact .inK (by simp only [InK]; omega) | exact .wr | constructor | decide | omega)))); constructor) | refine Pa rfl rfl rfl rfl rfl ?_ | refine Po rfl rfl rfl rfl rfl ?_ | fail)
        intro _
        refine DW_weak (Wk_famPut endV 4 A (env' := [(7, .ptr 7 0), (0, .dat false (.rp n.cells)), (1, .dat false (.slice ((idsR n.bridges).map bytesR))), (5, .sl 950 nb), (19, .dat false (.slice (n.links.map linkV))), (20, .dat true (.int .i64 (n.links.map linkV).length)), (21, .dat true (.int .i64 k))]) (pre' := [(7, .cells false true ((linkV ⟨A, pa, B, pb, cost, true⟩).map (.dat false)))]) (xs := X) (r' := RA ++ [(⟨pa, cost, B, pb⟩ : End)]) (by omega) rfl rfl rfl rfl hsp (fun k r h1 h2 => ?_) (by (repeat' (first | exact trivial | rfl | exact listLe_map _ | exact ⟨_, rfl, .inl rfl⟩ | exact ⟨_, rfl, .inr (.inl rfl)⟩ | exact ⟨_, rfl, .inr (.inr rfl)⟩ | refine ⟨_, _, rfl, rfl, ?_⟩ | exact ⟨_, rfl, rfl⟩ | exact ⟨_, _, _, _, rfl, rfl, rfl⟩ | exact ⟨_, rfl⟩ | exact ⟨_, _, rfl⟩ | apply And.intro))) (by (repeat' (first | exact trivial | rfl | exact listLe_map _ | exact ⟨_, rfl, .inl rfl⟩ | exact ⟨_, rfl, .inr (.inl rfl)⟩ | exact ⟨_, rfl, .inr (.inr rfl)⟩ | refine ⟨_, _, rfl, rfl, ?_⟩ | exact ⟨_, rfl, rfl⟩ | exact ⟨_, _, _, _, rfl, rfl, rfl⟩ | exact ⟨_, rfl⟩ | exact ⟨_, _, rfl⟩ | apply And.intro)))) ?_
        · simp (discharger := decide) only [mem_hi]
          exact hT k r h1 h2
        show DW _ _ _ ⟨_, _, 93⟩
        have gB' : (X.set A (RA ++ [(⟨pa, cost, B, pb⟩ : End)]))[B]? = some RB := by rw [List.getElem?_set_ne hAB]; exact gB
        have hXl' : (X.set A (RA ++ [(⟨pa, cost, B, pb⟩ : End)])).length = nb := by rw [List.length_set]; exact hXl
        generalize X.set A (RA ++ [(⟨pa, cost, B, pb⟩ : End)]) = X' at gB' hXl' hstep
        clear hg hb hsp hT hT0 T CS gA gB hXl X
        refine DW_famTake endV 4 (env' := [(7, .ptr 7 0), (0, .dat false (.rp n.cells)), (1, .dat false (.slice ((idsR n.bridges).map bytesR))), (5, .sl 950 nb), (19, .dat false (.slice (n.links.map linkV))), (20, .dat true (.int .i64 (n.links.map linkV).length)), (21, .dat true (.int .i64 k))]) (pre' := [(7, .cells false true ((linkV ⟨A, pa, B, pb, cost, true⟩).map (.dat false)))]) B gB' rfl rfl rfl (fun T => by (repeat' (first | exact trivial | rfl | exact listLe_map _ | exact ⟨_, rfl, .inl rfl⟩ | exact ⟨_, rfl, .inr (.inl rfl)⟩ | exact ⟨_, rfl, .inr (.inr rfl)⟩ | refine ⟨_, _, rfl, rfl, ?_⟩ | exact ⟨_, rfl, rfl⟩ | exact ⟨_, _, _, _, rfl, rfl, rfl⟩ | exact ⟨_, rfl⟩ | exact ⟨_, _, rfl⟩ | apply And.intro))) (fun T => by (repeat' (first | exact trivial | rfl | exact listLe_map _ | exact ⟨_, rfl, .inl rfl⟩ | exact ⟨_, rfl, .inr (.inl rfl)⟩ | exact ⟨_, rfl, .inr (.inr rfl)⟩ | refine ⟨_, _, rfl, rfl, ?_⟩ | exact ⟨_, rfl, rfl⟩ | exact ⟨_, _, _, _, rfl, rfl, rfl⟩ | exact ⟨_, rfl⟩ | exact ⟨_, _, rfl⟩ | apply And.intro))) (fun T hT0 hT => ?_)
        have hg := set_get (xs := X') (d := .own 960 0 0 RB.length) (A := B) (by omega)
        have hb := set_ble (xs := X') (d := .own 960 0 0 RB.length) (A := B) (by omega)
        have hsp := set_splice (xs := X') (d := .own 960 0 0 RB.length) (d' := .own 960 1 0 (RB ++ [(⟨pb, cost, A, pa⟩ : End)]).length) (A := B) (by omega)
        generalize (ctrD X').set B (.own 960 0 0 RB.length) = CS at hg hb hsp
        dsimp only [List.cons_append, List.nil_append]
        repeat' (first | refine DW_mark 960 (bx := .row 1 false true 4 ((RB ++ [(⟨pb, cost, A, pa⟩ : End)]).map endV)) rfl ?_ | (apply Wa; constructor) | refine Wb rfl ?_ | refine Wc rfl ?_ | refine Wd (by kernel_rfl) ?_ | refine We rfl ?_ | refine Wf rfl ?_ | refine Wi rfl rfl ?_ | ((first | apply dX rfl | apply Da rfl rfl | apply Db rfl rfl (by intro h; first | trivial | exact ⟨h, trivial⟩ | exact ⟨h, h, trivial⟩)); (focus ((try intro hg); first | exact S_ix_sl rfl rfl hl.b0 hl.b1 | exact S_load_ptr (d := .own 960 0 0 RB.length) rfl rfl hg | exact S_appM (f := endV) (us := RB) (bs := [(⟨pb, cost, A, pa⟩ : End)]) rfl rfl (.dat _ _) rfl rfl (.inr ⟨rfl, inferInstance⟩) rfl (by simp only [List.length_singleton]; omega) | exact S_store rfl rfl rfl rfl rfl hb | exact S_al rfl | exact S_bx rfl rfl | exact S_store rfl rfl rfl rfl rfl rfl | (apply Pu.ok; repeat' (first | rfl | exact .inK (by simp only [InK]; omega) | exact .wr | constructor | decide | omega)))); constructor) | refine Pa rfl rfl rfl rfl rfl ?_ | refine Po rfl rfl rfl rfl rfl ?_ | fail)
        intro _
        refine DW_weak (Wk_famPut endV 4 B (env' := [(0, .dat false (.rp n.cells)), (1, .dat false (.slice ((idsR n.bridges).map bytesR))), (5, .sl 950 nb), (19, .dat false (.slice (n.links.map linkV))), (20, .dat true (.int .i64 (n.links.map linkV).length)), (21, .dat true (.int .i64 k))]) (pre' := []) (xs := X') (r' := RB ++ [(⟨pb, cost, A, pa⟩ : End)]) (by omega) rfl rfl rfl rfl hsp (fun k r h1 h2 => ?_) (by (repeat' (first | exact trivial | rfl | exact listLe_map _ | exact ⟨_, rfl, .inl rfl⟩ | exact ⟨_, rfl, .inr (.inl rfl)⟩ | exact ⟨_, rfl, .inr (.inr rfl)⟩ | refine ⟨_, _, rfl, rfl, ?_⟩ | exact ⟨_, rfl, rfl⟩ | exact ⟨_, _, _, _, rfl, rfl, rfl⟩ | exact ⟨_, rfl⟩ | exact ⟨_, _, rfl⟩ | apply And.intro))) (by (repeat' (first | exact trivial | rfl | exact listLe_map _ | exact ⟨_, rfl, .inl rfl⟩ | exact ⟨_, rfl, .inr (.inl rfl)⟩ | exact ⟨_, rfl, .inr (.inr rfl)⟩ | refine ⟨_, _, rfl, rfl, ?_⟩ | exact ⟨_, rfl, rfl⟩ | exact ⟨_, _, _, _, rfl, rfl, rfl⟩ | exact ⟨_, rfl⟩ | exact ⟨_, _, rfl⟩ | apply And.intro)))) ?_
        · simp (discharger := decide) only [mem_hi]
          exact hT k r h1 h2
        show DW _ _ _ ⟨_, _, 93⟩
        rw [hstep]
        repeat' (first | (apply Wa; constructor) | refine Wb rfl ?_ | refine Wc rfl ?_ | refine Wd (by kernel_rfl) ?_ | refine We rfl ?_ | refine Wf rfl ?_ | refine Wi rfl rfl ?_ | ((first | apply dX rfl | apply Da rfl rfl | apply Db rfl rfl (by intro h; first | trivial | exact ⟨h, trivial⟩ | exact ⟨h, h, trivial⟩)); (focus ((try intro hg); first | exact S_al rfl | exact S_bx rfl rfl | exact S_store rfl rfl rfl rfl rfl rfl | (apply Pu.ok; repeat' (first | rfl | exact .inK (by simp only [InK]; omega) | exact .wr | constructor | decide | omega)))); constructor) | refine Pa rfl rfl rfl rfl rfl ?_ | refine Po rfl rfl rfl rfl rfl ?_ | fail)
        refine loop_again (k + 1) hlt (by omega) ?_
        rw [hst]
        refine Wk_famId endV 4 rfl rfl ?_ (fun k r h => ?_) ?_ ?_
        · exact famS_950 endV 4 rfl
        · exact famS_row endV 4 rfl h
        · (repeat' (first | exact trivial | rfl | exact listLe_map _ | exact ⟨_, rfl, .inl rfl⟩ | exact ⟨_, rfl, .inr (.inl rfl)⟩ | exact ⟨_, rfl, .inr (.inr rfl)⟩ | refine ⟨_, _, rfl, rfl, ?_⟩ | exact ⟨_, rfl, rfl⟩ | exact ⟨_, _, _, _, rfl, rfl, rfl⟩ | exact ⟨_, rfl⟩ | exact ⟨_, _, rfl⟩ | apply And.intro))
        · (repeat' (first | exact trivial | rfl | exact listLe_map _ | exact ⟨_, rfl, .inl rfl⟩ | exact ⟨_, rfl, .inr (.inl rfl)⟩ | exact ⟨_, rfl, .inr (.inr rfl)⟩ | refine ⟨_, _, rfl, rfl, ?_⟩ | exact ⟨_, rfl, rfl⟩ | exact ⟨_, _, _, _, rfl, rfl, rfl⟩ | exact ⟨_, rfl⟩ | exact ⟨_, _, rfl⟩ | apply And.intro))
      · rw [if_neg hr, List.append_nil] at hst
        rw [decide_eq_false hr] at hbe
        repeat' (first | (apply dt rfl; case h => exact S_alloc _ (famS_lo endV 4 (by decide) rfl)) | (apply Wa; constructor) | refine Wb rfl ?_ | refine Wc rfl ?_ | refine Wd (by kernel_rfl) ?_ | refine We rfl ?_ | refine Wf rfl ?_ | refine Wi rfl rfl ?_ | ((first | apply dX rfl | apply Da rfl rfl | apply Db rfl rfl (by intro h; first | trivial | exact ⟨h, trivial⟩ | exact ⟨h, h, trivial⟩)); (focus ((try intro hg); first | exact as_bool (S_lss rfl rfl) (decide_eq_true (by omega : (k : Int) < ((n.links.map linkV).length : Int))) | exact S_ixM rfl rfl (by omega) hx | exact S_ixM (f := bytesR) rfl rfl hl.a0 hxa | exact S_ixM (f := bytesR) rfl rfl hl.b0 hxb | exact S_call hbe rfl | exact S_al rfl | exact S_bx rfl rfl | exact S_store rfl rfl rfl rfl rfl rfl | (apply Pu.ok; repeat' (first | rfl | exact .inK (by simp only [InK]; omega) | exact .wr | constructor | decide | omega)))); constructor) | refine Pa rfl rfl rfl rfl rfl ?_ | refine Po rfl rfl rfl rfl rfl ?_ | fail)
        refine loop_again (k + 1) hlt (by omega) ?_
        rw [hst]
        refine Wk_famId endV 4 rfl rfl ?_ (fun k r h => ?_) ?_ ?_
        · exact famS_950 endV 4 rfl
        · simp (discharger := decide) only [mem_hi]
          exact famS_row endV 4 rfl h
        · (repeat' (first | exact trivial | rfl | exact listLe_map _ | exact ⟨_, rfl, .inl rfl⟩ | exact ⟨_, rfl, .inr (.inl rfl)⟩ | exact ⟨_, rfl, .inr (.inr rfl)⟩ | refine ⟨_, _, rfl, rfl, ?_⟩ | exact ⟨_, rfl, rfl⟩ | exact ⟨_, _, _, _, rfl, rfl, rfl⟩ | exact ⟨_, rfl⟩ | exact ⟨_, _, rfl⟩ | apply And.intro))
        · (repeat' (first | exact trivial | rfl | exact listLe_map _ | exact ⟨_, rfl, .inl rfl⟩ | exact ⟨_, rfl, .inr (.inl rfl)⟩ | exact ⟨_, rfl, .inr (.inr rfl)⟩ | refine ⟨_, _, rfl, rfl, ?_⟩ | exact ⟨_, rfl, rfl⟩ | exact ⟨_, _, _, _, rfl, rfl, rfl⟩ | exact ⟨_, rfl⟩ | exact ⟨_, _, rfl⟩ | apply And.intro))
  · have he : (n.links.take k).filter (liveB n.bridges) = liveL n := by rw [List.take_of_length_le (by omega)]; with_unfolding_all rfl
    rw [he]
    have hXl : (famX nb (liveL n)).length = nb := famX_len nb _
    have hXg : ∀ i, i < nb → (famX nb (liveL n))[i]? = some (rawE (liveL n) i) := fun i h => famX_get h
    generalize famX nb (liveL n) = X at hXl hXg
    repeat' (first | (apply Wa; constructor) | refine Wb rfl ?_ | refine Wc rfl ?_ | refine Wd (by kernel_rfl) ?_ | refine We rfl ?_ | refine Wf rfl ?_ | refine Wi rfl rfl ?_ | ((first | apply dX rfl | apply Da rfl rfl | apply Db rfl rfl (by intro h; first | trivial | exact ⟨h, trivial⟩ | exact ⟨h, h, trivial⟩)); (focus ((try intro hg); first | exact as_bool (S_lss rfl rfl) (decide_eq_false (by omega : ¬ (k : Int) < ((n.links.map linkV).length : Int))) | exact S_len_sl rfl | exact S_al rfl | exact S_bx rfl rfl | exact S_store rfl rfl rfl rfl rfl rfl | (apply Pu.ok; repeat' (first | rfl | exact .inK (by simp only [InK]; omega) | exact .wr | constructor | decide | omega)))); constructor) | refine Pa rfl rfl rfl rfl rfl ?_ | refine Po rfl rfl rfl rfl rfl ?_ | fail)
    refine DW_loop (fun j : Nat => ⟨[(5, .sl 950 nb), (83, .sl 950 nb), (84, .dat true (.int .i64 nb)), (85, .dat true (.int .i64 j))], famS endV 4 [] (srtX X j), 93⟩)
      (fun j => j ≤ nb) (fun j => nb - j) 0 (Nat.zero_le _)
      (by
        show Wk _ ⟨_, famS endV 4 [] (srtX X 0), 93⟩
        rw [srtX_zero]
        exact Wk_famId endV 4 rfl rfl (famS_950 endV 4 rfl) (fun k r h => famS_row endV 4 rfl h) (by (repeat' (first | exact trivial | rfl | exact listLe_map _ | exact ⟨_, rfl, .inl rfl⟩ | exact ⟨_, rfl, .inr (.inl rfl)⟩ | exact ⟨_, rfl, .inr (.inr rfl)⟩ | refine ⟨_, _, rfl, rfl, ?_⟩ | exact ⟨_, rfl, rfl⟩ | exact ⟨_, _, _, _, rfl, rfl, rfl⟩ | exact ⟨_, rfl⟩ | exact ⟨_, _, rfl⟩ | apply And.intro))) (by (repeat' (first | exact trivial | rfl | exact listLe_map _ | exact ⟨_, rfl, .inl rfl⟩ | exact ⟨_, rfl, .inr (.inl rfl)⟩ | exact ⟨_, rfl, .inr (.inr rfl)⟩ | refine ⟨_, _, rfl, rfl, ?_⟩ | exact ⟨_, rfl, rfl⟩ | exact ⟨_, _, _, _, rfl, rfl, rfl⟩ | exact ⟨_, rfl⟩ | exact ⟨_, _, rfl⟩ | apply And.intro)))) (fun j hj => ?_)
    have hYl : (srtX X j).length = nb := by rw [srtX_len]; exact hXl
    by_cases hlj : j < nb
    · have hr : (srtX X j)[j]? = some (rawE (liveL n) j) := srtX_at (hXg j hlj)
      have hnx := srtX_set (hXg j hlj)
      have hsj := hs j hlj
      generalize srtX X j = Y at hr hnx hYl
      generalize rawE (liveL n) j = R at hr hnx hsj
      refine DW_famTake endV 4 (env' := [(5, .sl 950 nb), (83, .sl 950 nb), (84, .dat true (.int .i64 nb)), (85, .dat true (.int .i64 j))]) (pre' := []) j hr rfl rfl rfl (fun T => by (repeat' (first | exact trivial | rfl | exact listLe_map _ | exact ⟨_, rfl, .inl rfl⟩ | exact ⟨_, rfl, .inr (.inl rfl)⟩ | exact ⟨_, rfl, .inr (.inr rfl)⟩ | refine ⟨_, _, rfl, rfl, ?_⟩ | exact ⟨_, rfl, rfl⟩ | exact ⟨_, _, _, _, rfl, rfl, rfl⟩ | exact ⟨_, rfl⟩ | exact ⟨_, _, rfl⟩ | apply And.intro))) (fun T => by (repeat' (first | exact trivial | rfl | exact listLe_map _ | exact ⟨_, rfl, .inl rfl⟩ | exact ⟨_, rfl, .inr (.inl rfl)⟩ | exact ⟨_, rfl, .inr (.inr rfl)⟩ | refine ⟨_, _, rfl, rfl, ?_⟩ | exact ⟨_, rfl, rfl⟩ | exact ⟨_, _, _, _, rfl, rfl, rfl⟩ | exact ⟨_, rfl⟩ | exact ⟨_, _, rfl⟩ | apply And.intro))) (fun T hT0 hT => ?_)
      have hg := set_get (xs := Y) (d := .own 960 0 0 R.length) (A := j) (by omega)
      have hcs : (ctrD Y).set j (.own 960 0 0 R.length) = (ctrD Y).set j (.own 960 0 0 (sortE R).length) := by rw [sortE_len]
      generalize (ctrD Y).set j (.own 960 0 0 R.length) = CS at hg hcs
      dsimp only [List.nil_append]
      repeat' (first | (apply Wa; constructor) | refine Wb rfl ?_ | refine Wc rfl ?_ | refine Wd (by kernel_rfl) ?_ | refine We rfl ?_ | refine Wf rfl ?_ | refine Wi rfl rfl ?_ | ((first | apply dX rfl | apply Da rfl rfl | apply Db rfl rfl (by intro h; first | trivial | exact ⟨h, trivial⟩ | exact ⟨h, h, trivial⟩)); (focus ((try intro hg); first | exact as_bool (S_lss rfl rfl) (decide_eq_true (by omega : (j : Int) < (nb : Int))) | exact S_ix_sl rfl rfl (by omega) (by omega) | exact S_load_ptr (d := .own 960 0 0 R.length) rfl rfl hg | exact S_callI 960 hsj rfl rfl | exact S_al rfl | exact S_bx rfl rfl | exact S_store rfl rfl rfl rfl rfl rfl | (apply Pu.ok; repeat' (first | rfl | exact .inK (by simp only [InK]; omega) | exact .wr | constructor | decide | omega)))); constructor) | refine Pa rfl rfl rfl rfl rfl ?_ | refine Po rfl rfl rfl rfl rfl ?_ | fail)
      refine loop_again (j + 1) hlj (by omega) ?_
      rw [← hnx]
      refine Wk_famPut endV 4 j (by omega) rfl rfl rfl rfl hcs (fun k r h1 h2 => ?_) (by (repeat' (first | exact trivial | rfl | exact listLe_map _ | exact ⟨_, rfl, .inl rfl⟩ | exact ⟨_, rfl, .inr (.inl rfl)⟩ | exact ⟨_, rfl, .inr (.inr rfl)⟩ | refine ⟨_, _, rfl, rfl, ?_⟩ | exact ⟨_, rfl, rfl⟩ | exact ⟨_, _, _, _, rfl, rfl, rfl⟩ | exact ⟨_, rfl⟩ | exact ⟨_, _, rfl⟩ | apply And.intro))) (by (repeat' (first | exact trivial | rfl | exact listLe_map _ | exact ⟨_, rfl, .inl rfl⟩ | exact ⟨_, rfl, .inr (.inl rfl)⟩ | exact ⟨_, rfl, .inr (.inr rfl)⟩ | refine ⟨_, _, rfl, rfl, ?_⟩ | exact ⟨_, rfl, rfl⟩ | exact ⟨_, _, _, _, rfl, rfl, rfl⟩ | exact ⟨_, rfl⟩ | exact ⟨_, _, rfl⟩ | apply And.intro)))
      simp (discharger := decide) only [mem_hi]
      exact hT k r h1 h2
    · refine DW_famOut endV 4 5 rfl rfl hYl.symm (fun M => ?_)
      have hall : srtX X j = X.map sortE := by rw [show j = X.length by omega]; exact srtX_all X
      rw [hall]
      repeat' (first | (apply Wa; constructor) | refine Wb rfl ?_ | refine Wc rfl ?_ | refine Wd (by kernel_rfl) ?_ | refine We rfl ?_ | refine Wf rfl ?_ | refine Wi rfl rfl ?_ | ((first | apply dX rfl | apply Da rfl rfl | apply Db rfl rfl (by intro h; first | trivial | exact ⟨h, trivial⟩ | exact ⟨h, h, trivial⟩)); (focus ((try intro hg); first | exact as_bool (S_lss rfl rfl) (decide_eq_false (by omega : ¬ (j : Int) < (nb : Int))) | exact S_al rfl | exact S_bx rfl rfl | exact S_store rfl rfl rfl rfl rfl rfl | (apply Pu.ok; repeat' (first | rfl | exact .inK (by simp only [InK]; omega) | exact .wr | constructor | decide | omega)))); constructor) | refine Pa rfl rfl rfl rfl rfl ?_ | refine Po rfl rfl rfl rfl rfl ?_ | fail)
      refine ret1 rfl (.inl rfl) ?_
      rfl
end Go.Proofs.Ytfmaehhloffabaa
