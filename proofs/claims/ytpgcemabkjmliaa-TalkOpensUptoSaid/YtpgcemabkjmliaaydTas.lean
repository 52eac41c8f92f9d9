/- Contracts: the talk laws' as. What stands behind enough ticks. -/
import Derived.Test.YtpgcemabkjmliaaydPlQ
import Derived.Test.YtpgcemabkjmliaayfTlO
namespace Go.Proofs.Ytpgcemabkjmliaa
open Go.RowKit
def standsT (m : Net) (t : List (List Mind)) : Prop := ∀ (j : Nat) l, t[j]? = some l → ∀ i, i < m.bridges.length → Stands m j i (mAt l i)
theorem stands_ticks {m : Net} (hg : m.good) {t : List (List Mind)} (ht : goodT m t) {k : Nat} (hk : 33 ≤ k) : standsT m (ticksN m t k) := fun j l hl i hi => by
  rw [ticksN_get] at hl
  obtain ⟨l0, h0, rfl⟩ := Option.map_eq_some_iff.1 hl
  exact settle_roles hg j (ht.m l0 (List.mem_of_getElem? h0)).1 hi hk
theorem onLoop_tick {i : Nat} {k : Int} {n : Net} {t : List (List Mind)} (hk : 0 ≤ k ∧ k ≤ 200) : onLoop i [tickD k] n t = (some (n, ticksN n t k.toNat), (0, 0)) := by
  rw [onLoop]
  rw [if_pos (show (tickD k).kind = 1 from rfl), if_neg (show ¬ ((tickD k).n < 0 ∨ 200 < (tickD k).n) by show ¬ (k < 0 ∨ 200 < k); omega), onLoop]
  rfl
theorem run_ticks {n : Net} {t0 : List (List Mind)} {l : List Doing} {k : Int} {r : Net × List (List Mind)} {f : Int × Nat} (hk : 0 ≤ k ∧ k ≤ 200) (h : onLoop 0 (l ++ [tickD k]) n t0 = (some r, f)) :
    ∃ t1, onLoop 0 l n t0 = (some (r.1, t1), (onLoop 0 l n t0).2) ∧ r.2 = ticksN r.1 t1 k.toNat := by
  rw [onLoop_append] at h
  generalize onLoop 0 l n t0 = q at h ⊢
  obtain ⟨o, g⟩ := q
  cases o with
  | none => injection h with h _; cases h
  | some p =>
    obtain ⟨m, t1⟩ := p
    simp only at h
    rw [onLoop_tick hk] at h
    injection h with h _
    injection h with h
    subst h
    exact ⟨t1, rfl, rfl⟩
theorem run_good {n : Net} (hg : n.good) {trees : Int} (h2 : trees ≤ 4) {l : List Doing} {m : Net} {t : List (List Mind)} {f : Int × Nat} (h : onLoop 0 l n (start0 n trees.toNat) = (some (m, t), f)) : m.good ∧ goodT m t := by
  have := onLoop_good l 0 n (start0 n trees.toNat) hg (start0_good (by omega)) (m, t) (by rw [h])
  exact ⟨this.1, this.2.1⟩
theorem planA_good {n : Net} (h0 : n.wrong.1 = 0) {k : Nat} (hk : k ≤ 15) : planA n k = (planF n k, (0, 0)) := by
  unfold planA
  rw [if_neg (by omega), if_neg (by omega)]
attribute [local irreducible] SStep DW DWin DOps thenQ inBlk loopQ retQ retQG FnF FnG FnI FnM Wk IntKind.wrap IntKind.andI IntKind.orI IntKind.xorI IntKind.andNotI IntKind.shlI IntKind.shrI playA onA planA planF
set_option maxHeartbeats 8000000 in
theorem law7_as (n : Net) (ht : n.typed) (hg : n.good) (h0 : n.wrong.1 = 0) (t : List (List Mind)) (htt : goodT n t) (hs : standsT n t) : FnF Try.prog 16 [n.v, talkV t] (.bool true) := by
  refine fnF_of Try.func16 rfl rfl rfl ?_
  simp only [envOf, talkV]
  have hmt : (t.map mindsRow).length = t.length := by simp
  have htl := htt.l
  repeat' (first | (apply Wa; constructor) | refine Wb rfl ?_ | refine Wc rfl ?_ | refine Wd (by kernel_rfl) ?_ | refine We rfl ?_ | refine Wf rfl ?_ | refine Wg rfl (by omega) ?_ | refine Wh rfl (by omega) ?_ | refine Wi rfl rfl ?_ | ((first | apply dX rfl | apply Da rfl rfl | apply Db rfl rfl (by intro h; first | trivial | exact ⟨h, trivial⟩ | exact ⟨h, h, trivial⟩)); (focus ((try intro hg); first | exact Ca rfl rfl (by constructor) (by omega) | exact Cb rfl rfl (by constructor) (by omega) | exact S_al rfl | exact S_bx rfl rfl | exact S_store rfl rfl rfl rfl rfl rfl | (apply Pu.ok; repeat' (first | rfl | exact .inK (by simp only [InK]; omega) | exact .wr | constructor | decide | omega)))); constructor) | refine Pa rfl rfl rfl rfl rfl ?_ | refine Po rfl rfl rfl rfl rfl ?_ | fail)
  refine DW_loop (fun k : Nat => ⟨[(2, .ptr 2 0), (12, .dat false (.slice (t.map mindsRow))), (13, .dat true (.int .i64 (t.map mindsRow).length)), (14, .dat true (.int .i64 k))], [(2, .cells false true (n.cells.map (.dat false)))], 61⟩)
    (fun k => k ≤ t.length) (fun k => t.length - k) 0 (Nat.zero_le _) (Wk_g some rfl rfl (by (repeat' (first | exact trivial | rfl | exact listLe_map _ | exact ⟨_, rfl, .inl rfl⟩ | exact ⟨_, rfl, .inr (.inl rfl)⟩ | exact ⟨_, rfl, .inr (.inr rfl)⟩ | refine ⟨_, _, rfl, rfl, ?_⟩ | exact ⟨_, rfl, rfl⟩ | exact ⟨_, _, _, _, rfl, rfl, rfl⟩ | exact ⟨_, rfl⟩ | exact ⟨_, _, rfl⟩ | apply And.intro)))) (fun k hk => ?_)
  by_cases hlt : k < t.length
  · have hx : t[(k : Int).toNat]? = some t[k] := by simp [hlt]
    have hx' : t[k]? = some t[k] := by simp [hlt]
    have hll := (htt.m t[k] (List.getElem_mem hlt)).1
    have hsk := hs k t[k] hx'
    generalize t[k] = u at hx hll hsk
    have hml : (u.map Mind.cells).length = u.length := by simp
    have hnb := hg.nb
    have hp := plan_Plan n ht k
    rw [planA_good h0 (by omega)] at hp
    change FnF _ _ _ (.tuple [.slice ((planF n k).map Place.cells), faultV (0, 0)]) at hp
    have hpl := plan_len n k
    have hmp : ((planF n k).map Place.cells).length = n.bridges.length := by rw [List.length_map, hpl]
    have hpg : ∀ j, j < u.length → (planF n k)[j]? = some ⟨(mAt u j).vec, (mAt u j).rootPort, (mAt u j).ports, (mAt u j).roles⟩ := fun j hj => by
      have st := hsk j (by omega)
      rw [plan_get (by omega), st.vec, st.port, st.ports, st.roles]
    generalize planF n k = pf at hp hpl hmp hpg
    repeat' (first | (apply Wa; constructor) | refine Wb rfl ?_ | refine Wc rfl ?_ | refine Wd (by kernel_rfl) ?_ | refine We rfl ?_ | refine Wf rfl ?_ | refine Wg rfl (by omega) ?_ | refine Wh rfl (by omega) ?_ | refine Wi rfl rfl ?_ | ((first | apply dX rfl | apply Da rfl rfl | apply Db rfl rfl (by intro h; first | trivial | exact ⟨h, trivial⟩ | exact ⟨h, h, trivial⟩)); (focus ((try intro hg); first | exact S_ixM rfl rfl (by omega) hx | exact S_call hp rfl | exact Ca rfl rfl (by constructor) (by omega) | exact Cb rfl rfl (by constructor) (by omega) | exact S_al rfl | exact S_bx rfl rfl | exact S_store rfl rfl rfl rfl rfl rfl | (apply Pu.ok; repeat' (first | rfl | exact .inK (by simp only [InK]; omega) | exact .wr | constructor | decide | omega)))); constructor) | refine Pa rfl rfl rfl rfl rfl ?_ | refine Po rfl rfl rfl rfl rfl ?_ | fail)
    refine DW_loop (fun j : Nat => ⟨[(2, .ptr 2 0), (12, .dat false (.slice (t.map mindsRow))), (13, .dat true (.int .i64 (t.map mindsRow).length)), (14, .dat true (.int .i64 k)), (7, .dat true (.slice (pf.map Place.cells))), (35, .dat false (.slice (u.map Mind.cells))), (36, .dat true (.int .i64 (u.map Mind.cells).length)), (37, .dat true (.int .i64 j))], [(2, .cells false true (n.cells.map (.dat false)))], 61⟩)
      (fun j => j ≤ u.length) (fun j => u.length - j) 0 (Nat.zero_le _) (Wk_g some rfl rfl (by (repeat' (first | exact trivial | rfl | exact listLe_map _ | exact ⟨_, rfl, .inl rfl⟩ | exact ⟨_, rfl, .inr (.inl rfl)⟩ | exact ⟨_, rfl, .inr (.inr rfl)⟩ | refine ⟨_, _, rfl, rfl, ?_⟩ | exact ⟨_, rfl, rfl⟩ | exact ⟨_, _, _, _, rfl, rfl, rfl⟩ | exact ⟨_, rfl⟩ | exact ⟨_, _, rfl⟩ | apply And.intro)))) (fun j hj => ?_)
    by_cases hlj : j < u.length
    · have hy : u[(j : Int).toNat]? = some (mAt u j) := by rw [Int.toNat_natCast]; exact mAt_get hlj
      have hpj := hpg j hlj
      generalize mAt u j = m at hy hpj
      have hsame := ref6_Same [⟨m.vec, m.rootPort, m.ports, m.roles⟩]
      have hsl : (pf.drop j).take (j + 1 - j) = [⟨m.vec, m.rootPort, m.ports, m.roles⟩] := by
        rw [show j + 1 - j = 1 by omega, List.drop_eq_getElem_cons (by omega)]
        have := (List.getElem?_eq_some_iff.1 hpj).2
        simp [this]
      repeat' (first | (apply Wa; constructor) | refine Wb rfl ?_ | refine Wc rfl ?_ | refine Wd (by kernel_rfl) ?_ | refine We rfl ?_ | refine Wf rfl ?_ | refine Wg rfl (by omega) ?_ | refine Wh rfl (by omega) ?_ | refine Wi rfl rfl ?_ | ((first | apply dX rfl | apply Da rfl rfl | apply Db rfl rfl (by intro h; first | trivial | exact ⟨h, trivial⟩ | exact ⟨h, h, trivial⟩)); (focus ((try intro hg); first | exact S_ixM rfl rfl (by omega) hy | exact S_slM [⟨m.vec, m.rootPort, m.ports, m.roles⟩] rfl (.some _ _ _ _ j rfl) (.some _ _ _ _ (j + 1) rfl) (by omega) (by omega) hsl | exact S_call hsame rfl | exact Ca rfl rfl (by constructor) (by omega) | exact Cb rfl rfl (by constructor) (by omega) | exact S_al rfl | exact S_bx rfl rfl | exact S_store rfl rfl rfl rfl rfl rfl | (apply Pu.ok; repeat' (first | rfl | exact .inK (by simp only [InK]; omega) | exact .wr | constructor | decide | omega)))); constructor) | refine Pa rfl rfl rfl rfl rfl ?_ | refine Po rfl rfl rfl rfl rfl ?_ | fail)
      exact loop_again (j + 1) hlj (by omega) (Wk_g some rfl rfl (by (repeat' (first | exact trivial | rfl | exact listLe_map _ | exact ⟨_, rfl, .inl rfl⟩ | exact ⟨_, rfl, .inr (.inl rfl)⟩ | exact ⟨_, rfl, .inr (.inr rfl)⟩ | refine ⟨_, _, rfl, rfl, ?_⟩ | exact ⟨_, rfl, rfl⟩ | exact ⟨_, _, _, _, rfl, rfl, rfl⟩ | exact ⟨_, rfl⟩ | exact ⟨_, _, rfl⟩ | apply And.intro))))
    · repeat' (first | (apply Wa; constructor) | refine Wb rfl ?_ | refine Wc rfl ?_ | refine Wd (by kernel_rfl) ?_ | refine We rfl ?_ | refine Wf rfl ?_ | refine Wg rfl (by omega) ?_ | refine Wh rfl (by omega) ?_ | refine Wi rfl rfl ?_ | ((first | apply dX rfl | apply Da rfl rfl | apply Db rfl rfl (by intro h; first | trivial | exact ⟨h, trivial⟩ | exact ⟨h, h, trivial⟩)); (focus ((try intro hg); first | exact Ca rfl rfl (by constructor) (by omega) | exact Cb rfl rfl (by constructor) (by omega) | exact S_al rfl | exact S_bx rfl rfl | exact S_store rfl rfl rfl rfl rfl rfl | (apply Pu.ok; repeat' (first | rfl | exact .inK (by simp only [InK]; omega) | exact .wr | constructor | decide | omega)))); constructor) | refine Pa rfl rfl rfl rfl rfl ?_ | refine Po rfl rfl rfl rfl rfl ?_ | fail)
      exact loop_again (k + 1) hlt (by omega) (Wk_g some rfl rfl (by (repeat' (first | exact trivial | rfl | exact listLe_map _ | exact ⟨_, rfl, .inl rfl⟩ | exact ⟨_, rfl, .inr (.inl rfl)⟩ | exact ⟨_, rfl, .inr (.inr rfl)⟩ | refine ⟨_, _, rfl, rfl, ?_⟩ | exact ⟨_, rfl, rfl⟩ | exact ⟨_, _, _, _, rfl, rfl, rfl⟩ | exact ⟨_, rfl⟩ | exact ⟨_, _, rfl⟩ | apply And.intro))))
  · repeat' (first | (apply Wa; constructor) | refine Wb rfl ?_ | refine Wc rfl ?_ | refine Wd (by kernel_rfl) ?_ | refine We rfl ?_ | refine Wf rfl ?_ | refine Wg rfl (by omega) ?_ | refine Wh rfl (by omega) ?_ | refine Wi rfl rfl ?_ | ((first | apply dX rfl | apply Da rfl rfl | apply Db rfl rfl (by intro h; first | trivial | exact ⟨h, trivial⟩ | exact ⟨h, h, trivial⟩)); (focus ((try intro hg); first | exact Ca rfl rfl (by constructor) (by omega) | exact Cb rfl rfl (by constructor) (by omega) | exact S_al rfl | exact S_bx rfl rfl | exact S_store rfl rfl rfl rfl rfl rfl | (apply Pu.ok; repeat' (first | rfl | exact .inK (by simp only [InK]; omega) | exact .wr | constructor | decide | omega)))); constructor) | refine Pa rfl rfl rfl rfl rfl ?_ | refine Po rfl rfl rfl rfl rfl ?_ | fail)
    refine ret1 rfl (by first | exact .inl rfl | exact .inr (flat_of rfl)) ?_
    rfl
end Go.Proofs.Ytpgcemabkjmliaa
