/- Law: TalkRings. -/
import Derived.Test.YtpgcemabkjmliaaGreatzbInp
import Derived.Test.YtpgcemabkjmliaaGreatzbLnd
import Derived.Test.YtpgcemabkjmliaaGreatzcRng
import Derived.Test.YtpgcemabkjmliaaGreatzcTlk
import Derived.Test.YtpgcemabkjmliaaGreatzeChoose
import Derived.Test.YtpgcemabkjmliaaGreatzcPlP
import Derived.Test.YtpgcemabkjmliaaGreatzdTrg
namespace Go.Proofs.YtpgcemabkjmliaaGreat
open Go.RowKit
theorem play_two {n : Net} (ht : n.typed) {trees : Int} {l : List Doing} {m : Net} {t : List (List Mind)} (_hp : playA n trees l = (some (m, t), (0, 0))) (hg : n.good) (h0 : n.wrong.1 = 0) (h1 : 1 ≤ trees) (h2 : trees ≤ 4) (hon : onLoop 0 l n (start0 n trees.toNat) = (some (m, t), (0, 0))) :
    m.good ∧ m.typed ∧ m.wrong.1 = 0 ∧ Kin n m ∧ goodT m t ∧ t.length = trees.toNat := by
  have := onLoop_good l 0 n (start0 n trees.toNat) hg (start0_good (by omega)) (m, t) (by rw [hon])
  obtain ⟨g1, g2, g3, g4, _⟩ := this
  exact ⟨g1, net_typed ht g3, wrong_kin ht h0 g3 g1, g3, g2, by rw [g4]; simp [start0]⟩
attribute [local irreducible] SStep DW DWin DOps thenQ inBlk loopQ retQ retQG FnF FnG FnI FnM Wk IntKind.wrap IntKind.andI IntKind.orI IntKind.xorI IntKind.andNotI IntKind.shlI IntKind.shrI playA onA
end Go.Proofs.YtpgcemabkjmliaaGreat
namespace Go.Proofs.YtpgcemabkjmliaaGreat
open Go.RowKit
theorem onLoop_tick {i : Nat} {k : Int} {n : Net} {t : List (List Mind)} (hk : 0 ≤ k ∧ k ≤ 200) : onLoop i [tickD k] n t = (some (n, ticksN n t k.toNat), (0, 0)) := by
  rw [onLoop]
  rw [if_pos (show (tickD k).kind = 1 from rfl), if_neg (show ¬ ((tickD k).n < 0 ∨ 200 < (tickD k).n) by show ¬ (k < 0 ∨ 200 < k); omega), onLoop]
  rfl
theorem run_ticks {n : Net} {t0 : List (List Mind)} {l : List Doing} {k : Int} {r : Net × List (List Mind)} {f : Int × Nat} (hk : 0 ≤ k ∧ k ≤ 200) (h : onLoop 0 (l ++ [tickD k]) n t0 = (some r, f)) :
    ∃ t1, onLoop 0 l n t0 = (some (r.1, t1), (onLoop 0 l n t0).2) ∧ r.2 = ticksN r.1 t1 k.toNat := by
  rw [onLoop_append] at h
  generalize onLoop 0 l n t0 = q at h ⊢
  obtain ⟨o, g⟩ := q
  cases o with
  | none => injection h with h _; cases h
  | some p =>
    obtain ⟨m, t1⟩ := p
    simp only at h
    rw [onLoop_tick hk] at h
    injection h with h _
    injection h with h
    subst h
    exact ⟨t1, rfl, rfl⟩
attribute [local irreducible] SStep DW DWin DOps thenQ inBlk loopQ retQ retQG FnF FnG FnI FnM Wk IntKind.wrap IntKind.andI IntKind.orI IntKind.xorI IntKind.andNotI IntKind.shlI IntKind.shrI playA onA
end Go.Proofs.YtpgcemabkjmliaaGreat
namespace Go.Proofs.YtpgcemabkjmliaaGreat
open Go.RowKit
theorem opensT_M {t : List (List Mind)} {k : Nat} {u : List Mind} (hu : t[k]? = some u) {b p : Int} (h : opensT t k b p = true) : opensM (mAt u b.toNat) p = true := by
  unfold opensT at h
  split at h
  · cases h
  · rw [Int.toNat_natCast, hu, Option.getD_some] at h
    simp only at h
    split at h
    · cases h
    · exact h
theorem rings_at {n : Net} (hg : n.good) {T : Nat} (hT : T ≤ 4) {l : List Doing} {d0 : Doing} {r : List Doing} (hl : l = d0 :: r) (h1 : d0.kind = 1) (h2 : 40 ≤ d0.n) (ha : apartL 0 false 40 l = true) {k : Nat} {m : Net} {t1 : List (List Mind)} {f : Int × Nat}
    (ho : onLoop 0 (l.take k) n (start0 n T) = (some (m, t1), f)) : ∃ q, RI m t1 q := by
  subst hl
  cases k with
  | zero =>
    rw [List.take_zero, onLoop] at ho
    injection ho with ho _
    injection ho with ho
    injection ho with e1 e2
    subst e1; subst e2
    exact ⟨0, RI.start hg hT⟩
  | succ k =>
    rw [List.take_succ_cons, onLoop, if_pos h1] at ho
    rw [apartL, if_pos h1] at ha
    by_cases h3 : d0.n < 0 ∨ 200 < d0.n
    · rw [if_pos h3] at ho; cases ho
    · rw [if_neg h3] at ho
      rw [wrap_small (by omega) (by omega)] at ha
      refine rings_run r (r.take k) 1 1 true _ n _ (0 + d0.n.toNat) (by omega) ((RI.start hg hT).ticks _) ?_ (fun h => by cases h) ha (List.take_prefix _ _) m t1 f ho
      rw [if_neg (by omega)]
      omega
theorem rings_pairs {m : Net} {t : List (List Mind)} {q : Nat} (h : RI m t q) {k : Nat} {u : List Mind} (hu : t[k]? = some u) :
    (∀ p ∈ ((liveL m).filter (onB t k)).map prL, (0 ≤ p.1 ∧ p.1 < m.bridges.length) ∧ (0 ≤ p.2 ∧ p.2 < m.bridges.length)) ∧
    ∀ l1 p l2, ((liveL m).filter (onB t k)).map prL = l1 ++ p :: l2 → ∃ f : Nat → Prop, (∀ q ∈ l1, (f q.1.toNat ↔ f q.2.toNat)) ∧ ¬ (f p.1.toNat ↔ f p.2.toNat) := by
  refine ⟨fun p hp => ?_, fun l1 p l2 e => ?_⟩
  · obtain ⟨x, hx, rfl⟩ := List.mem_map.1 hp
    have hk := h.ok.lk x (live_sub (List.mem_filter.1 hx).1)
    exact ⟨⟨hk.a0, hk.a1⟩, ⟨hk.b0, hk.b1⟩⟩
  · obtain ⟨m1, m2', e0, e1, e2⟩ := List.map_eq_append_iff.1 e
    obtain ⟨x, m2, e3, e4, e5⟩ := List.map_eq_cons_iff.1 e2
    subst e1 e4 e3
    obtain ⟨f, f1, f2⟩ := no_rings h hu (xs := (liveL m).filter (onB t k)) List.filter_sublist (fun x hx => by
      have := (List.mem_filter.1 hx).2
      unfold onB at this
      rw [Bool.and_eq_true] at this
      exact ⟨opensT_M hu this.1, opensT_M hu this.2⟩) m1 x m2 e0
    refine ⟨f, fun q hq => ?_, f2⟩
    obtain ⟨y, hy, rfl⟩ := List.mem_map.1 hq
    exact f1 y hy
attribute [local irreducible] SStep DW DWin DOps thenQ inBlk loopQ retQ retQG FnF FnG FnI FnM Wk IntKind.wrap IntKind.andI IntKind.orI IntKind.xorI IntKind.andNotI IntKind.shlI IntKind.shrI playA onA ticksN tkN liveL opensT apartL
set_option maxHeartbeats 8000000 in
theorem law_TalkRings (n : Net) (ht : n.typed) (trees : Int) (l : List Doing) (at_ : Int) (hlb : l.length ≤ 1048576) : FnF Tryz.prog 4 [n.v, .int .i64 trees, .slice (l.map Doing.cells), .int .i64 at_] (.bool true) := by
  refine fnF_of Tryz.func4 rfl rfl rfl ?_
  simp only [envOf]
  have hml : (l.map Doing.cells).length = l.length := by simp
  by_cases c1 : l.length = 0
  · repeat' (first | (apply Wa; constructor) | refine Wb rfl ?_ | refine Wc rfl ?_ | refine Wd (by kernel_rfl) ?_ | refine We rfl ?_ | refine Wf rfl ?_ | refine Wg rfl (by omega) ?_ | refine Wh rfl (by omega) ?_ | refine Wi rfl rfl ?_ | ((first | apply dX rfl | apply Da rfl rfl | apply Db rfl rfl (by intro h; first | trivial | exact ⟨h, trivial⟩ | exact ⟨h, h, trivial⟩)); (focus ((try intro hg); first | exact S_call law7_alive rfl | exact Ca rfl rfl (by constructor) (by omega) | exact Cb rfl rfl (by constructor) (by omega) | exact S_al rfl | exact S_bx rfl rfl | exact S_store rfl rfl rfl rfl rfl rfl | (apply Pu.ok; repeat' (first | rfl | exact .inK (by simp only [InK]; omega) | exact .wr | constructor | decide | omega)))); constructor) | refine Pa rfl rfl rfl rfl rfl ?_ | refine Po rfl rfl rfl rfl rfl ?_ | fail)
    refine ret1 rfl (by first | exact .inl rfl | exact .inr (flat_of rfl)) ?_
    rfl
  by_cases c2 : at_ < 0
  · repeat' (first | (apply Wa; constructor) | refine Wb rfl ?_ | refine Wc rfl ?_ | refine Wd (by kernel_rfl) ?_ | refine We rfl ?_ | refine Wf rfl ?_ | refine Wg rfl (by omega) ?_ | refine Wh rfl (by omega) ?_ | refine Wi rfl rfl ?_ | ((first | apply dX rfl | apply Da rfl rfl | apply Db rfl rfl (by intro h; first | trivial | exact ⟨h, trivial⟩ | exact ⟨h, h, trivial⟩)); (focus ((try intro hg); first | exact S_call law7_alive rfl | exact Ca rfl rfl (by constructor) (by omega) | exact Cb rfl rfl (by constructor) (by omega) | exact S_al rfl | exact S_bx rfl rfl | exact S_store rfl rfl rfl rfl rfl rfl | (apply Pu.ok; repeat' (first | rfl | exact .inK (by simp only [InK]; omega) | exact .wr | constructor | decide | omega)))); constructor) | refine Pa rfl rfl rfl rfl rfl ?_ | refine Po rfl rfl rfl rfl rfl ?_ | fail)
    refine ret1 rfl (by first | exact .inl rfl | exact .inr (flat_of rfl)) ?_
    rfl
  by_cases c3 : 200 < at_
  · repeat' (first | (apply Wa; constructor) | refine Wb rfl ?_ | refine Wc rfl ?_ | refine Wd (by kernel_rfl) ?_ | refine We rfl ?_ | refine Wf rfl ?_ | refine Wg rfl (by omega) ?_ | refine Wh rfl (by omega) ?_ | refine Wi rfl rfl ?_ | ((first | apply dX rfl | apply Da rfl rfl | apply Db rfl rfl (by intro h; first | trivial | exact ⟨h, trivial⟩ | exact ⟨h, h, trivial⟩)); (focus ((try intro hg); first | exact S_call law7_alive rfl | exact Ca rfl rfl (by constructor) (by omega) | exact Cb rfl rfl (by constructor) (by omega) | exact S_al rfl | exact S_bx rfl rfl | exact S_store rfl rfl rfl rfl rfl rfl | (apply Pu.ok; repeat' (first | rfl | exact .inK (by simp only [InK]; omega) | exact .wr | constructor | decide | omega)))); constructor) | refine Pa rfl rfl rfl rfl rfl ?_ | refine Po rfl rfl rfl rfl rfl ?_ | fail)
    refine ret1 rfl (by first | exact .inl rfl | exact .inr (flat_of rfl)) ?_
    rfl
  obtain ⟨d0, r, hlr⟩ : ∃ d0 r, l = d0 :: r := by
    cases hl : l with
    | nil => rw [hl] at c1; exact absurd rfl c1
    | cons d0 r => exact ⟨d0, r, rfl⟩
  have hx0 : l[(0 : Int).toNat]? = some d0 := by rw [hlr]; rfl
  have hap := law7_apart l
  by_cases c4 : d0.kind = 1
  rotate_left
  · repeat' (first | (apply Wa; constructor) | refine Wb rfl ?_ | refine Wc rfl ?_ | refine Wd (by kernel_rfl) ?_ | refine We rfl ?_ | refine Wf rfl ?_ | refine Wg rfl (by omega) ?_ | refine Wh rfl (by omega) ?_ | refine Wi rfl rfl ?_ | ((first | apply dX rfl | apply Da rfl rfl | apply Db rfl rfl (by intro h; first | trivial | exact ⟨h, trivial⟩ | exact ⟨h, h, trivial⟩)); (focus ((try intro hg); first | exact S_call law7_alive rfl | exact S_ixM rfl rfl (by omega) hx0 | exact Ca rfl rfl (by constructor) (by omega) | exact Cb rfl rfl (by constructor) (by omega) | exact S_al rfl | exact S_bx rfl rfl | exact S_store rfl rfl rfl rfl rfl rfl | (apply Pu.ok; repeat' (first | rfl | exact .inK (by simp only [InK]; omega) | exact .wr | constructor | decide | omega)))); constructor) | refine Pa rfl rfl rfl rfl rfl ?_ | refine Po rfl rfl rfl rfl rfl ?_ | fail)
    refine ret1 rfl (by first | exact .inl rfl | exact .inr (flat_of rfl)) ?_
    rfl
  by_cases c5 : d0.n < 40
  · repeat' (first | (apply Wa; constructor) | refine Wb rfl ?_ | refine Wc rfl ?_ | refine Wd (by kernel_rfl) ?_ | refine We rfl ?_ | refine Wf rfl ?_ | refine Wg rfl (by omega) ?_ | refine Wh rfl (by omega) ?_ | refine Wi rfl rfl ?_ | ((first | apply dX rfl | apply Da rfl rfl | apply Db rfl rfl (by intro h; first | trivial | exact ⟨h, trivial⟩ | exact ⟨h, h, trivial⟩)); (focus ((try intro hg); first | exact S_call law7_alive rfl | exact S_ixM rfl rfl (by omega) hx0 | exact Ca rfl rfl (by constructor) (by omega) | exact Cb rfl rfl (by constructor) (by omega) | exact S_al rfl | exact S_bx rfl rfl | exact S_store rfl rfl rfl rfl rfl rfl | (apply Pu.ok; repeat' (first | rfl | exact .inK (by simp only [InK]; omega) | exact .wr | constructor | decide | omega)))); constructor) | refine Pa rfl rfl rfl rfl rfl ?_ | refine Po rfl rfl rfl rfl rfl ?_ | fail)
    refine ret1 rfl (by first | exact .inl rfl | exact .inr (flat_of rfl)) ?_
    rfl
  cases c6 : apartL 0 false 40 l with
  | false =>
    rw [c6] at hap
    repeat' (first | (apply Wa; constructor) | refine Wb rfl ?_ | refine Wc rfl ?_ | refine Wd (by kernel_rfl) ?_ | refine We rfl ?_ | refine Wf rfl ?_ | refine Wg rfl (by omega) ?_ | refine Wh rfl (by omega) ?_ | refine Wi rfl rfl ?_ | ((first | apply dX rfl | apply Da rfl rfl | apply Db rfl rfl (by intro h; first | trivial | exact ⟨h, trivial⟩ | exact ⟨h, h, trivial⟩)); (focus ((try intro hg); first | exact S_call law7_alive rfl | exact S_ixM rfl rfl (by omega) hx0 | exact S_call hap rfl | exact Ca rfl rfl (by constructor) (by omega) | exact Cb rfl rfl (by constructor) (by omega) | exact S_al rfl | exact S_bx rfl rfl | exact S_store rfl rfl rfl rfl rfl rfl | (apply Pu.ok; repeat' (first | rfl | exact .inK (by simp only [InK]; omega) | exact .wr | constructor | decide | omega)))); constructor) | refine Pa rfl rfl rfl rfl rfl ?_ | refine Po rfl rfl rfl rfl rfl ?_ | fail)
    refine ret1 rfl (by first | exact .inl rfl | exact .inr (flat_of rfl)) ?_
    rfl
  | true =>
    rw [c6] at hap
    repeat' (first | (apply Wa; constructor) | refine Wb rfl ?_ | refine Wc rfl ?_ | refine Wd (by kernel_rfl) ?_ | refine We rfl ?_ | refine Wf rfl ?_ | refine Wg rfl (by omega) ?_ | refine Wh rfl (by omega) ?_ | refine Wi rfl rfl ?_ | ((first | apply dX rfl | apply Da rfl rfl | apply Db rfl rfl (by intro h; first | trivial | exact ⟨h, trivial⟩ | exact ⟨h, h, trivial⟩)); (focus ((try intro hg); first | exact S_call law7_alive rfl | exact S_ixM rfl rfl (by omega) hx0 | exact S_call hap rfl | exact Ca rfl rfl (by constructor) (by omega) | exact Cb rfl rfl (by constructor) (by omega) | exact S_al rfl | exact S_bx rfl rfl | exact S_store rfl rfl rfl rfl rfl rfl | (apply Pu.ok; repeat' (first | rfl | exact .inK (by simp only [InK]; omega) | exact .wr | constructor | decide | omega)))); constructor) | refine Pa rfl rfl rfl rfl rfl ?_ | refine Po rfl rfl rfl rfl rfl ?_ | fail)
    refine DW_loop (fun k : Nat => ⟨[(1, .dat false (.int .i64 trees)), (2, .dat false (.slice (l.map Doing.cells))), (3, .dat false (.int .i64 at_)), (4, .ptr 4 0), (46, .dat true (.int .i64 (l.map Doing.cells).length)), (47, .dat true (.int .i64 k))], [(4, .cells false true (n.cells.map (.dat false)))], 99⟩)
      (fun k => k ≤ l.length) (fun k => l.length - k) 0 (Nat.zero_le _) (Wk_g some rfl rfl (by (repeat' (first | exact trivial | rfl | exact listLe_map _ | exact ⟨_, rfl, .inl rfl⟩ | exact ⟨_, rfl, .inr (.inl rfl)⟩ | exact ⟨_, rfl, .inr (.inr rfl)⟩ | refine ⟨_, _, rfl, rfl, ?_⟩ | exact ⟨_, rfl, rfl⟩ | exact ⟨_, _, _, _, rfl, rfl, rfl⟩ | exact ⟨_, rfl⟩ | exact ⟨_, _, rfl⟩ | apply And.intro)))) (fun k hk => ?_)
    by_cases hlt : k < l.length
    · have hx : l[(k : Int).toNat]? = some l[k] := by simp [hlt]
      generalize l[k] = d at hx
      by_cases c7 : d.kind = 1
      · obtain ⟨c, hc⟩ : ∃ c, c = min at_ (max d.n 0) := ⟨_, rfl⟩
        have hc0 : 0 ≤ c ∧ c ≤ 200 := by omega
        have hp := talk_Play n ht trees (l.take k ++ [tickD c])
        have htc := law7_ticks c
        rcases playA_cases ht trees (l.take k ++ [tickD c]) with ⟨f, hf, hne⟩ | ⟨hg, h0, h1, h2, hl, ⟨m, t⟩, hon, hpl⟩
        · rw [hf] at hp
          rw [← whole_eq (f := Doing.cells) (us := l.take k ++ [tickD c]) rfl] at hp
          obtain ⟨e, i⟩ := f
          simp only at hne
          repeat' (first | (apply dt rfl; case h => exact S_litO (els := []) _ rfl rfl rfl rfl rfl) | (apply Wa; constructor) | refine Wb rfl ?_ | refine Wc rfl ?_ | refine Wd (by kernel_rfl) ?_ | refine We rfl ?_ | refine Wf rfl ?_ | refine Wg rfl (by omega) ?_ | refine Wh rfl (by omega) ?_ | refine Wi rfl rfl ?_ | ((first | apply dX rfl | apply Da rfl rfl | apply Db rfl rfl (by intro h; first | trivial | exact ⟨h, trivial⟩ | exact ⟨h, h, trivial⟩)); (focus ((try intro hg); first | exact S_slM (l.take k) rfl (.none _) (.some _ _ _ _ k rfl) (by omega) (by omega) (by simp) | exact S_appM (f := Doing.cells) (us := []) (bs := l.take k) rfl rfl (.dat _ _) rfl rfl (.inr ⟨rfl, inferInstance⟩) rfl (by simp only [List.length_nil, List.length_take]; omega) | exact S_appM (f := Doing.cells) (us := l.take k) (bs := [tickD c]) rfl rfl (.dat _ _) rfl rfl (.inr ⟨rfl, inferInstance⟩) rfl (by simp only [List.length_singleton, List.length_take]; omega) | exact S_ixM rfl rfl (by omega) hx | exact S_max rfl rfl | exact as_int (S_min rfl rfl) hc.symm | exact S_call htc rfl | exact S_call hp rfl | exact Ca rfl rfl (by constructor) (by omega) | exact Cb rfl rfl (by constructor) (by omega) | exact S_al rfl | exact S_bx rfl rfl | exact S_store rfl rfl rfl rfl rfl rfl | (apply Pu.ok; repeat' (first | rfl | exact .inK (by simp only [InK]; omega) | exact .wr | constructor | decide | omega)))); constructor) | refine Pa rfl rfl rfl rfl rfl ?_ | refine Po rfl rfl rfl rfl rfl ?_ | fail)
          refine ret1 rfl (by first | exact .inl rfl | exact .inr (flat_of rfl)) ?_
          rfl
        · rw [hpl] at hp
          obtain ⟨mg, mt, m0, mk, mgt, mtl⟩ := play_two ht hpl hg h0 h1 h2 hon
          obtain ⟨t1, hon1, htt⟩ := run_ticks hc0 hon
          simp only at hon1 htt
          obtain ⟨q, hri⟩ := rings_at hg (by omega) hlr c4 (by omega) c6 hon1
          have hri := hri.ticks c.toNat
          rw [← htt] at hri
          clear htt hon1 hon hpl
          have hpr := fun (j : Nat) (u : List Mind) (hu : t[j]? = some u) => rings_pairs hri hu
          change FnF _ _ _ (.tuple [m.v, talkV t, faultV (0, 0)]) at hp
          rw [← whole_eq (f := Doing.cells) (us := l.take k ++ [tickD c]) rfl] at hp
          have hmt : (t.map mindsRow).length = t.length := by simp
          have htl := mgt.l
          have hnb := mg.nb
          have hmb : (m.bridges.map bridgeV).length = m.bridges.length := by simp
          repeat' (first | (apply dt rfl; case h => exact S_litO (els := []) _ rfl rfl rfl rfl rfl) | (apply Wa; constructor) | refine Wb rfl ?_ | refine Wc rfl ?_ | refine Wd (by kernel_rfl) ?_ | refine We rfl ?_ | refine Wf rfl ?_ | refine Wg rfl (by omega) ?_ | refine Wh rfl (by omega) ?_ | refine Wi rfl rfl ?_ | ((first | apply dX rfl | apply Da rfl rfl | apply Db rfl rfl (by intro h; first | trivial | exact ⟨h, trivial⟩ | exact ⟨h, h, trivial⟩)); (focus ((try intro hg); first | exact S_slM (l.take k) rfl (.none _) (.some _ _ _ _ k rfl) (by omega) (by omega) (by simp) | exact S_appM (f := Doing.cells) (us := []) (bs := l.take k) rfl rfl (.dat _ _) rfl rfl (.inr ⟨rfl, inferInstance⟩) rfl (by simp only [List.length_nil, List.length_take]; omega) | exact S_appM (f := Doing.cells) (us := l.take k) (bs := [tickD c]) rfl rfl (.dat _ _) rfl rfl (.inr ⟨rfl, inferInstance⟩) rfl (by simp only [List.length_singleton, List.length_take]; omega) | exact S_ixM rfl rfl (by omega) hx | exact S_max rfl rfl | exact as_int (S_min rfl rfl) hc.symm | exact S_call htc rfl | exact S_call hp rfl | exact Ca rfl rfl (by constructor) (by omega) | exact Cb rfl rfl (by constructor) (by omega) | exact S_al rfl | exact S_bx rfl rfl | exact S_store rfl rfl rfl rfl rfl rfl | (apply Pu.ok; repeat' (first | rfl | exact .inK (by simp only [InK]; omega) | exact .wr | constructor | decide | omega)))); constructor) | refine Pa rfl rfl rfl rfl rfl ?_ | refine Po rfl rfl rfl rfl rfl ?_ | fail)
          refine DW_loop (fun j : Nat => ⟨[(1, .dat false (.int .i64 trees)), (2, .dat false (.slice (l.map Doing.cells))), (3, .dat false (.int .i64 at_)), (4, .ptr 4 0), (46, .dat true (.int .i64 (l.map Doing.cells).length)), (47, .dat true (.int .i64 k)), (11, .ptr 11 0), (12, .ptr 12 0), (85, .dat true (.int .i64 (t.map mindsRow).length)), (86, .dat true (.int .i64 j))], [(4, .cells false true (n.cells.map (.dat false))), (11, .cells false true (m.cells.map (.dat true))), (12, .cells false true [.dat true (.slice (t.map mindsRow))])], 99⟩)
            (fun j => j ≤ t.length) (fun j => t.length - j) 0 (Nat.zero_le _) (Wk_g some rfl rfl (by (repeat' (first | exact trivial | rfl | exact listLe_map _ | exact ⟨_, rfl, .inl rfl⟩ | exact ⟨_, rfl, .inr (.inl rfl)⟩ | exact ⟨_, rfl, .inr (.inr rfl)⟩ | refine ⟨_, _, rfl, rfl, ?_⟩ | exact ⟨_, rfl, rfl⟩ | exact ⟨_, _, _, _, rfl, rfl, rfl⟩ | exact ⟨_, rfl⟩ | exact ⟨_, _, rfl⟩ | apply And.intro)))) (fun j hj => ?_)
          by_cases hlj : j < t.length
          · obtain ⟨p1, p2⟩ := hpr j t[j] (by simp [hlj])
            have hll : (((liveL m).filter (onB t j)).map prL).length ≤ 40 := by
              rw [List.length_map]
              with_unfolding_all exact Nat.le_trans (List.length_filter_le _ _) (Nat.le_trans (List.length_filter_le _ _) mg.nl)
            have hon := law7_on m mt mg t mgt j
            have hrg := law7_ring m.bridges.length (by omega) _ (by omega) p1 p2
            generalize ((liveL m).filter (onB t j)).map prL = ps at hon hrg
            rw [show ((m.bridges.length : Nat) : Int) = ((m.bridges.map bridgeV).length : Int) by rw [hmb]] at hrg
            repeat' (first | (apply Wa; constructor) | refine Wb rfl ?_ | refine Wc rfl ?_ | refine Wd (by kernel_rfl) ?_ | refine We rfl ?_ | refine Wf rfl ?_ | refine Wg rfl (by omega) ?_ | refine Wh rfl (by omega) ?_ | refine Wi rfl rfl ?_ | ((first | apply dX rfl | apply Da rfl rfl | apply Db rfl rfl (by intro h; first | trivial | exact ⟨h, trivial⟩ | exact ⟨h, h, trivial⟩)); (focus ((try intro hg); first | exact S_call hon rfl | exact S_call hrg rfl | exact Ca rfl rfl (by constructor) (by omega) | exact Cb rfl rfl (by constructor) (by omega) | exact S_al rfl | exact S_bx rfl rfl | exact S_store rfl rfl rfl rfl rfl rfl | (apply Pu.ok; repeat' (first | rfl | exact .inK (by simp only [InK]; omega) | exact .wr | constructor | decide | omega)))); constructor) | refine Pa rfl rfl rfl rfl rfl ?_ | refine Po rfl rfl rfl rfl rfl ?_ | fail)
            exact loop_again (j + 1) hlj (by omega) (Wk_g some rfl rfl (by (repeat' (first | exact trivial | rfl | exact listLe_map _ | exact ⟨_, rfl, .inl rfl⟩ | exact ⟨_, rfl, .inr (.inl rfl)⟩ | exact ⟨_, rfl, .inr (.inr rfl)⟩ | refine ⟨_, _, rfl, rfl, ?_⟩ | exact ⟨_, rfl, rfl⟩ | exact ⟨_, _, _, _, rfl, rfl, rfl⟩ | exact ⟨_, rfl⟩ | exact ⟨_, _, rfl⟩ | apply And.intro))))
          · repeat' (first | (apply Wa; constructor) | refine Wb rfl ?_ | refine Wc rfl ?_ | refine Wd (by kernel_rfl) ?_ | refine We rfl ?_ | refine Wf rfl ?_ | refine Wg rfl (by omega) ?_ | refine Wh rfl (by omega) ?_ | refine Wi rfl rfl ?_ | ((first | apply dX rfl | apply Da rfl rfl | apply Db rfl rfl (by intro h; first | trivial | exact ⟨h, trivial⟩ | exact ⟨h, h, trivial⟩)); (focus ((try intro hg); first | exact Ca rfl rfl (by constructor) (by omega) | exact Cb rfl rfl (by constructor) (by omega) | exact S_al rfl | exact S_bx rfl rfl | exact S_store rfl rfl rfl rfl rfl rfl | (apply Pu.ok; repeat' (first | rfl | exact .inK (by simp only [InK]; omega) | exact .wr | constructor | decide | omega)))); constructor) | refine Pa rfl rfl rfl rfl rfl ?_ | refine Po rfl rfl rfl rfl rfl ?_ | fail)
            exact loop_again (k + 1) hlt (by omega) (Wk_g some rfl rfl (by (repeat' (first | exact trivial | rfl | exact listLe_map _ | exact ⟨_, rfl, .inl rfl⟩ | exact ⟨_, rfl, .inr (.inl rfl)⟩ | exact ⟨_, rfl, .inr (.inr rfl)⟩ | refine ⟨_, _, rfl, rfl, ?_⟩ | exact ⟨_, rfl, rfl⟩ | exact ⟨_, _, _, _, rfl, rfl, rfl⟩ | exact ⟨_, rfl⟩ | exact ⟨_, _, rfl⟩ | apply And.intro))))
      · repeat' (first | (apply dt rfl; case h => exact S_litO (els := []) _ rfl rfl rfl rfl rfl) | (apply Wa; constructor) | refine Wb rfl ?_ | refine Wc rfl ?_ | refine Wd (by kernel_rfl) ?_ | refine We rfl ?_ | refine Wf rfl ?_ | refine Wg rfl (by omega) ?_ | refine Wh rfl (by omega) ?_ | refine Wi rfl rfl ?_ | ((first | apply dX rfl | apply Da rfl rfl | apply Db rfl rfl (by intro h; first | trivial | exact ⟨h, trivial⟩ | exact ⟨h, h, trivial⟩)); (focus ((try intro hg); first | exact S_slM (l.take k) rfl (.none _) (.some _ _ _ _ k rfl) (by omega) (by omega) (by simp) | exact S_appM (f := Doing.cells) (us := []) (bs := l.take k) rfl rfl (.dat _ _) rfl rfl (.inr ⟨rfl, inferInstance⟩) rfl (by simp only [List.length_nil, List.length_take]; omega) | exact S_ixM rfl rfl (by omega) hx | exact Ca rfl rfl (by constructor) (by omega) | exact Cb rfl rfl (by constructor) (by omega) | exact S_al rfl | exact S_bx rfl rfl | exact S_store rfl rfl rfl rfl rfl rfl | (apply Pu.ok; repeat' (first | rfl | exact .inK (by simp only [InK]; omega) | exact .wr | constructor | decide | omega)))); constructor) | refine Pa rfl rfl rfl rfl rfl ?_ | refine Po rfl rfl rfl rfl rfl ?_ | fail)
        exact loop_again (k + 1) hlt (by omega) (Wk_g some rfl rfl (by (repeat' (first | exact trivial | rfl | exact listLe_map _ | exact ⟨_, rfl, .inl rfl⟩ | exact ⟨_, rfl, .inr (.inl rfl)⟩ | exact ⟨_, rfl, .inr (.inr rfl)⟩ | refine ⟨_, _, rfl, rfl, ?_⟩ | exact ⟨_, rfl, rfl⟩ | exact ⟨_, _, _, _, rfl, rfl, rfl⟩ | exact ⟨_, rfl⟩ | exact ⟨_, _, rfl⟩ | apply And.intro))))
    · repeat' (first | (apply Wa; constructor) | refine Wb rfl ?_ | refine Wc rfl ?_ | refine Wd (by kernel_rfl) ?_ | refine We rfl ?_ | refine Wf rfl ?_ | refine Wg rfl (by omega) ?_ | refine Wh rfl (by omega) ?_ | refine Wi rfl rfl ?_ | ((first | apply dX rfl | apply Da rfl rfl | apply Db rfl rfl (by intro h; first | trivial | exact ⟨h, trivial⟩ | exact ⟨h, h, trivial⟩)); (focus ((try intro hg); first | exact Ca rfl rfl (by constructor) (by omega) | exact Cb rfl rfl (by constructor) (by omega) | exact S_al rfl | exact S_bx rfl rfl | exact S_store rfl rfl rfl rfl rfl rfl | (apply Pu.ok; repeat' (first | rfl | exact .inK (by simp only [InK]; omega) | exact .wr | constructor | decide | omega)))); constructor) | refine Pa rfl rfl rfl rfl rfl ?_ | refine Po rfl rfl rfl rfl rfl ?_ | fail)
      refine ret1 rfl (by first | exact .inl rfl | exact .inr (flat_of rfl)) ?_
      rfl
end Go.Proofs.YtpgcemabkjmliaaGreat
