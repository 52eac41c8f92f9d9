/- Talk: how old tales are; one part after the other; trees on their own: mathematics. -/
import Derived.Test.YtfmaehhloffabaaycTln
import Derived.Test.YtfmaehhloffabaaydTlc
import Derived.Test.YtfmaehhloffabaaycTlk
namespace Go.Proofs.Ytfmaehhloffabaa
open Go.RowKit
attribute [local irreducible] SStep DW DWin DOps thenQ inBlk loopQ retQ retQG FnF FnG FnI FnM Wk IntKind.wrap IntKind.andI IntKind.orI IntKind.xorI IntKind.andNotI IntKind.shlI IntKind.shrI nm ix famM brCS priosOf
set_option maxHeartbeats 4000000 in
theorem talk_own (n : Net) (h : n.good) (hne : n.bridges ≠ []) :
    FnM Try.prog 26 ([n.v].map (D.dat false)) [] (.aggd [.sl 950 n.bridges.length, .own 941 0 0 n.links.length]) (netM 0 n) := by
  refine fnM_new (K := netK n.bridges.length) (t := 2) Try.func26 rfl rfl rfl rfl (netM_closed 0 n) rfl rfl ?_
  simp only [envOf]
  have hnb := h.nb
  have hnl := h.nl
  have hmb : (n.bridges.map bridgeV).length = n.bridges.length := by simp
  have hcb := clone_bridgesO n.bridges (by omega)
  have hcl := clone_linksO n.links (by omega)
  repeat' (first | refine DW_mark 1 (bx := .cells false true [.own 940 1 0 n.bridges.length, .own 941 1 0 n.links.length]) rfl ?_ | (apply Wa; constructor) | refine Wb rfl ?_ | refine Wc rfl ?_ | refine Wd (by kernel_rfl) ?_ | refine We rfl ?_ | refine Wf rfl ?_ | refine Wi rfl rfl ?_ | (apply dt rfl; case h => first | exact S_callG0 940 hcb rfl rfl (.own _ _) | exact S_callG0 941 hcl rfl rfl (.own _ _)) | ((first | apply dX rfl | apply Da rfl rfl | apply Db rfl rfl (by intro h; first | trivial | exact ⟨h, trivial⟩ | exact ⟨h, h, trivial⟩)); (focus ((try intro hg); first | exact S_callG0 940 hcb rfl rfl (.own _ _) | exact S_callG0 941 hcl rfl rfl (.own _ _) | exact S_al rfl | exact S_bx rfl rfl | exact S_store rfl rfl rfl rfl rfl rfl | (apply Pu.ok; repeat' (first | rfl | exact .inK (by simp only [InK]; omega) | exact .wr | constructor | decide | omega)))); constructor) | refine Pa rfl rfl rfl rfl rfl ?_ | refine Po rfl rfl rfl rfl rfl ?_ | fail)
  intro _
  refine DW_cellsOfN 940 rfl (by decide) (by simpa using hne) ?_
  refine DW_weak (s' := ⟨[(1, .ptr 1 0), (2, .ptr 2 0)], [(1, .cells false true [.sl 940 n.bridges.length, .own 941 0 0 n.links.length]), (2, .cells false true [.nil, .nil]), (941, .row 0 false true 6 (n.links.map linkV)), (940, .cells false true (brCS 0 n.bridges))], 41⟩)
    (Wk_g some rfl rfl ⟨⟨⟨_, _, rfl, rfl, by (repeat' (first | exact ownLe2 rfl rfl rfl | exact trivial | rfl | exact listLe_map _ | exact ⟨_, rfl, .inl rfl⟩ | exact ⟨_, rfl, .inr (.inl rfl)⟩ | exact ⟨_, rfl, .inr (.inr rfl)⟩ | refine ⟨_, _, rfl, rfl, ?_⟩ | exact ⟨_, rfl, rfl⟩ | exact ⟨_, _, _, _, rfl, rfl, rfl⟩ | exact ⟨_, rfl⟩ | exact ⟨_, _, rfl⟩ | apply And.intro))⟩, ⟨_, _, rfl, rfl, by (repeat' (first | exact trivial | rfl | exact listLe_map _ | exact ⟨_, rfl, .inl rfl⟩ | exact ⟨_, rfl, .inr (.inl rfl)⟩ | exact ⟨_, rfl, .inr (.inr rfl)⟩ | refine ⟨_, _, rfl, rfl, ?_⟩ | exact ⟨_, rfl, rfl⟩ | exact ⟨_, _, _, _, rfl, rfl, rfl⟩ | exact ⟨_, rfl⟩ | exact ⟨_, _, rfl⟩ | apply And.intro))⟩, ⟨_, rfl⟩, ⟨_, _, rfl, rfl, brCS_start _⟩, trivial⟩, by (repeat' (first | exact trivial | rfl | exact listLe_map _ | exact ⟨_, rfl, .inl rfl⟩ | exact ⟨_, rfl, .inr (.inl rfl)⟩ | exact ⟨_, rfl, .inr (.inr rfl)⟩ | refine ⟨_, _, rfl, rfl, ?_⟩ | exact ⟨_, rfl, rfl⟩ | exact ⟨_, _, _, _, rfl, rfl, rfl⟩ | exact ⟨_, rfl⟩ | exact ⟨_, _, rfl⟩ | apply And.intro))⟩) ?_
  refine DW_weak (Wk_famCNew intV1 1 (env' := [(1, .ptr 1 0), (2, .ptr 2 0)]) (pre' := [(1, .cells false true [.sl 950 n.bridges.length, .own 941 0 0 n.links.length]), (2, .cells false true [.nil, .nil]), (941, .row 0 false true 6 (n.links.map linkV))]) 940 (by decide) (fun j d h => .inl (brCS_dat j d h)) rfl rfl rfl (by (repeat' (first | exact trivial | rfl | exact listLe_map _ | exact ⟨_, rfl, .inl rfl⟩ | exact ⟨_, rfl, .inr (.inl rfl)⟩ | exact ⟨_, rfl, .inr (.inr rfl)⟩ | refine ⟨_, _, rfl, rfl, ?_⟩ | exact ⟨_, rfl, rfl⟩ | exact ⟨_, _, _, _, rfl, rfl, rfl⟩ | exact ⟨_, rfl⟩ | exact ⟨_, _, rfl⟩ | apply And.intro))) (by (repeat' (first | exact trivial | rfl | exact listLe_map _ | exact ⟨_, rfl, .inl rfl⟩ | exact ⟨_, rfl, .inr (.inl rfl)⟩ | exact ⟨_, rfl, .inr (.inr rfl)⟩ | refine ⟨_, _, rfl, rfl, ?_⟩ | exact ⟨_, rfl, rfl⟩ | exact ⟨_, _, _, _, rfl, rfl, rfl⟩ | exact ⟨_, rfl⟩ | exact ⟨_, _, rfl⟩ | apply And.intro)))) ?_
  repeat' (first | (apply Wa; constructor) | refine Wb rfl ?_ | refine Wc rfl ?_ | refine Wd (by kernel_rfl) ?_ | refine We rfl ?_ | refine Wf rfl ?_ | refine Wi rfl rfl ?_ | ((first | apply dX rfl | apply Da rfl rfl | apply Db rfl rfl (by intro h; first | trivial | exact ⟨h, trivial⟩ | exact ⟨h, h, trivial⟩)); (focus ((try intro hg); first | exact S_len_sl rfl | exact S_al rfl | exact S_bx rfl rfl | exact S_store rfl rfl rfl rfl rfl rfl | (apply Pu.ok; repeat' (first | rfl | exact .inK (by simp only [InK]; omega) | exact .wr | constructor | decide | omega)))); constructor) | refine Pa rfl rfl rfl rfl rfl ?_ | refine Po rfl rfl rfl rfl rfl ?_ | fail)
  refine DW_loop (fun k : Nat => ⟨[(1, .ptr 1 0), (2, .ptr 2 0), (14, .sl 950 n.bridges.length), (15, .dat true (.int .i64 n.bridges.length)), (16, .dat true (.int .i64 k))], famC intV1 1 [(1, .cells false true [.sl 950 n.bridges.length, .own 941 0 0 n.links.length]), (2, .cells false true [.nil, .nil]), (941, .row 0 false true 6 (n.links.map linkV))] (brCS k n.bridges) (priosOf k n.bridges), 41⟩)
    (fun k => k ≤ n.bridges.length) (fun k => n.bridges.length - k) 0 (Nat.zero_le _)
    (by
      rw [show priosOf 0 n.bridges = [] by with_unfolding_all rfl]
      refine Wk_famCId intV1 1 (fun j d h => .inl (brCS_dat j d h)) rfl rfl rfl (fun k r h => by cases h) (by (repeat' (first | exact trivial | rfl | exact listLe_map _ | exact ⟨_, rfl, .inl rfl⟩ | exact ⟨_, rfl, .inr (.inl rfl)⟩ | exact ⟨_, rfl, .inr (.inr rfl)⟩ | refine ⟨_, _, rfl, rfl, ?_⟩ | exact ⟨_, rfl, rfl⟩ | exact ⟨_, _, _, _, rfl, rfl, rfl⟩ | exact ⟨_, rfl⟩ | exact ⟨_, _, rfl⟩ | apply And.intro))) (by (repeat' (first | exact trivial | rfl | exact listLe_map _ | exact ⟨_, rfl, .inl rfl⟩ | exact ⟨_, rfl, .inr (.inl rfl)⟩ | exact ⟨_, rfl, .inr (.inr rfl)⟩ | refine ⟨_, _, rfl, rfl, ?_⟩ | exact ⟨_, rfl, rfl⟩ | exact ⟨_, _, _, _, rfl, rfl, rfl⟩ | exact ⟨_, rfl⟩ | exact ⟨_, _, rfl⟩ | apply And.intro)))) (fun k hk => ?_)
  by_cases hlt : k < n.bridges.length
  · have hb : n.bridges[k]? = some n.bridges[k] := by simp [hlt]
    have hbo := h.br n.bridges[k] (List.getElem_mem hlt)
    have hcs := brCS_step hb (.own 960 1 0 n.bridges[k].prios.length)
    have htk := brCS_take (k := k) hb
    have hps := priosOf_step hb
    have hpl := priosOf_len hk
    have hbl := brCS_len k n.bridges
    have hok := brCS_okC (k := k + 1) (bs := n.bridges) (by omega)
    have how := brCS_own (k := k + 1) (Nat.lt_succ_self k) hb
    have huq := brCS_uq (k := k + 1) (i := k) (bs := n.bridges)
    have hrow : ∀ (j : Nat) r, (priosOf k n.bridges)[j]? = some r → Mem.at (famC intV1 1 [(1, .cells false true [.sl 950 n.bridges.length, .own 941 0 0 n.links.length]), (2, .cells false true [.nil, .nil]), (941, .row 0 false true 6 (n.links.map linkV))] (brCS k n.bridges) (priosOf k n.bridges)) (nm j) = .row 0 false true 1 (r.map intV1) := fun j r h => famC_row intV1 1 rfl h
    have h60 : Mem.at (famC intV1 1 [(1, .cells false true [.sl 950 n.bridges.length, .own 941 0 0 n.links.length]), (2, .cells false true [.nil, .nil]), (941, .row 0 false true 6 (n.links.map linkV))] (brCS k n.bridges) (priosOf k n.bridges)) 960 = .gone := famC_mid intV1 1 rfl (by decide) (by decide)
    have h4 : Mem.at (famC intV1 1 [(1, .cells false true [.sl 950 n.bridges.length, .own 941 0 0 n.links.length]), (2, .cells false true [.nil, .nil]), (941, .row 0 false true 6 (n.links.map linkV))] (brCS k n.bridges) (priosOf k n.bridges)) 4 = .gone := famC_lo intV1 1 (by decide) rfl
    generalize n.bridges[k] = b at hb hbo hcs htk hps how
    have hc1 := clone_intsO b.prios (by have := hbo.n; omega)
    have hc2 := clone_waysF b.region.ways (by have := hbo.r.l; omega)
    have htk' : ((brCS k n.bridges).drop (k * 5)).take 5 = [.dat true (.int .u64 b.addr), .dat false (.slice (b.prios.map intV1)), .dat true (.str b.region.name), .dat true (.int .i64 b.region.rev), .dat false (.slice (b.region.ways.map wayV))] := by
      rw [htk]; unfold cellB; rw [if_neg (Nat.lt_irrefl k), decide_eq_false (Nat.lt_irrefl k)]
    clear htk
    have b1 : Nat.ble (((k : Nat) : Int).toNat * 5 + 1 + 1) (brCS k n.bridges).length = true := Nat.ble_eq_true_of_le (by rw [hbl, Int.toNat_natCast]; omega)
    have s1 : splice (brCS k n.bridges) (((k : Nat) : Int).toNat * 5 + 1) [D.own 960 1 0 b.prios.length] = (brCS k n.bridges).set (k * 5 + 1) (.own 960 1 0 b.prios.length) := by
      rw [Int.toNat_natCast]; exact splice_set (by rw [hbl]; omega)
    have b2 : Nat.ble (((k : Nat) : Int).toNat * 5 + 2 + 2 + 1) (splice (brCS k n.bridges) (((k : Nat) : Int).toNat * 5 + 1) [D.own 960 1 0 b.prios.length]).length = true := Nat.ble_eq_true_of_le (by rw [s1, List.length_set, hbl, Int.toNat_natCast]; omega)
    have s2 : splice (splice (brCS k n.bridges) (((k : Nat) : Int).toNat * 5 + 1) [D.own 960 1 0 b.prios.length]) (((k : Nat) : Int).toNat * 5 + 2 + 2) [D.dat true (.slice (b.region.ways.map wayV))] = (brCS (k + 1) n.bridges).set (k * 5 + 1) (.own 960 1 0 b.prios.length) := by
      rw [s1, ← hcs, Int.toNat_natCast]; exact splice_set (by rw [List.length_set, hbl]; omega)
    repeat' (first | (apply Wa; constructor) | refine Wb rfl ?_ | refine Wc rfl ?_ | refine Wd (by kernel_rfl) ?_ | refine We rfl ?_ | refine Wf rfl ?_ | refine Wg rfl (by omega) ?_ | refine Wh rfl (by omega) ?_ | refine Wi rfl rfl ?_ | (apply dt rfl; case h => first | exact S_callG0 960 hc1 rfl h60 (.own _ _)) | ((first | apply dX rfl | apply Da rfl rfl | apply Db rfl rfl (by intro h; first | trivial | exact ⟨h, trivial⟩ | exact ⟨h, h, trivial⟩)); (focus ((try intro hg); first | exact S_alloc 4 h4 | exact S_ix_sl rfl rfl (by omega) (by omega) | exact S_loadC rfl rfl htk' (by rw [hbl]; simp only [Int.toNat_natCast]; omega) | exact S_callG0 960 hc1 rfl h60 (.own _ _) | exact S_call hc2 rfl | exact S_store rfl rfl rfl rfl rfl b1 | exact S_store rfl rfl rfl rfl rfl b2 | exact Ca rfl rfl (by constructor) (by omega) | exact Cb rfl rfl (by constructor) (by omega) | exact S_al rfl | exact S_bx rfl rfl | exact S_store rfl rfl rfl rfl rfl rfl | (apply Pu.ok; repeat' (first | rfl | exact .inK (by simp only [InK]; omega) | exact .wr | constructor | decide | omega)))); constructor) | refine Pa rfl rfl rfl rfl rfl ?_ | refine Po rfl rfl rfl rfl rfl ?_ | fail)
    refine loop_again (k + 1) hlt (by omega) ?_
    rw [hps] at hok ⊢
    rw [s2]
    refine Wk_famCAdd intV1 1 (k * 5 + 1) hok (by rw [hpl]; exact how) (fun j len h => huq j len (by rw [hpl] at h; exact h)) rfl rfl rfl rfl rfl (fun j r h => ?_) (by (repeat' (first | exact trivial | rfl | exact listLe_map _ | exact ⟨_, rfl, .inl rfl⟩ | exact ⟨_, rfl, .inr (.inl rfl)⟩ | exact ⟨_, rfl, .inr (.inr rfl)⟩ | refine ⟨_, _, rfl, rfl, ?_⟩ | exact ⟨_, rfl, rfl⟩ | exact ⟨_, _, _, _, rfl, rfl, rfl⟩ | exact ⟨_, rfl⟩ | exact ⟨_, _, rfl⟩ | apply And.intro))) (by (repeat' (first | exact trivial | rfl | exact listLe_map _ | exact ⟨_, rfl, .inl rfl⟩ | exact ⟨_, rfl, .inr (.inl rfl)⟩ | exact ⟨_, rfl, .inr (.inr rfl)⟩ | refine ⟨_, _, rfl, rfl, ?_⟩ | exact ⟨_, rfl, rfl⟩ | exact ⟨_, _, _, _, rfl, rfl, rfl⟩ | exact ⟨_, rfl⟩ | exact ⟨_, _, rfl⟩ | apply And.intro)))
    simp (discharger := decide) only [mem_hi]
    exact hrow j r h
  · have he : k = n.bridges.length := by omega
    subst he
    repeat' (first | (apply Wa; constructor) | refine Wb rfl ?_ | refine Wc rfl ?_ | refine Wd (by kernel_rfl) ?_ | refine We rfl ?_ | refine Wf rfl ?_ | refine Wg rfl (by omega) ?_ | refine Wh rfl (by omega) ?_ | refine Wi rfl rfl ?_ | ((first | apply dX rfl | apply Da rfl rfl | apply Db rfl rfl (by intro h; first | trivial | exact ⟨h, trivial⟩ | exact ⟨h, h, trivial⟩)); (focus ((try intro hg); first | exact Ca rfl rfl (by constructor) (by omega) | exact Cb rfl rfl (by constructor) (by omega) | exact S_al rfl | exact S_bx rfl rfl | exact S_store rfl rfl rfl rfl rfl rfl | (apply Pu.ok; repeat' (first | rfl | exact .inK (by simp only [InK]; omega) | exact .wr | constructor | decide | omega)))); constructor) | refine Pa rfl rfl rfl rfl rfl ?_ | refine Po rfl rfl rfl rfl rfl ?_ | fail)
    refine ⟨2, _, _, rfl, rfl, List.map_congr_left fun g hg => ?_⟩
    rcases netK_cases hg with rfl | rfl | ⟨j, hj, rfl⟩
    · rfl
    · rfl
    · have hj' : (priosOf n.bridges.length n.bridges)[j]? = some (n.bridges[j].prios) := by rw [priosOf_get hj]; simp [hj]
      simp (discharger := decide) only [mem_hi]
      rw [famC_row intV1 1 rfl hj']
      exact (famC_row intV1 1 rfl hj').symm
end Go.Proofs.Ytfmaehhloffabaa
namespace Go.Proofs.Ytfmaehhloffabaa
open Go.RowKit
theorem choose_ages (id : Int) : ∀ (l : List Offer) (c : Ch), ((c.port = -1 ∧ c.age = 0 ∧ c.best.root = id) ∨ (0 ≤ c.port ∧ 1 ≤ c.age ∧ c.age ≤ 20 ∧ c.best.root < id)) →
    (((l.foldl (Ch.step id) c).port = -1 ∧ (l.foldl (Ch.step id) c).age = 0 ∧ (l.foldl (Ch.step id) c).best.root = id) ∨ (0 ≤ (l.foldl (Ch.step id) c).port ∧ 1 ≤ (l.foldl (Ch.step id) c).age ∧ (l.foldl (Ch.step id) c).age ≤ 20 ∧ (l.foldl (Ch.step id) c).best.root < id))
  | [], _, h => h
  | o :: r, c, h => by
    rw [List.foldl_cons]
    refine choose_ages id r _ ?_
    unfold Ch.step
    split
    · exact h
    · rename_i v hv
      split
      · exact h
      · rename_i hn
        by_cases hq : (if c.port < 0 then -1 else v.cmp c.best) < 0 ∨ ((if c.port < 0 then -1 else v.cmp c.best) = 0 ∧ o.port < c.port)
        · rw [if_pos hq]
          refine .inr ⟨?_, ?_, ?_, ?_⟩
          · show 0 ≤ o.port; omega
          · show 1 ≤ o.age + 1; omega
          · show o.age + 1 ≤ 20; omega
          · show v.root < id; omega
        · rw [if_neg hq]; exact h
structure Mind.aged (m : Mind) : Prop where
  lo : 0 ≤ m.age
  hi : m.age ≤ 20
  a : m.age = 0 ↔ m.rootPort < 0
  r : m.vec.root = m.vec.bridge ↔ m.rootPort < 0
theorem mindOf_aged (n : Net) (tree : Int) (i : Nat) (ends : List End) (l : List Mind) : (mindOf n tree i ends l).aged := by
  have h := choose_ages (idN n tree i) (hears ends l) (.start (idN n tree i)) (.inl ⟨rfl, rfl, rfl⟩)
  have e : (hears ends l).foldl (Ch.step (idN n tree i)) (.start (idN n tree i)) = chooseS (idN n tree i) (hears ends l) := rfl
  rw [e] at h
  unfold mindOf
  dsimp only [Ch.says]
  generalize chooseS (idN n tree i) (hears ends l) = c at h
  rcases h with ⟨h1, h2, h3⟩ | ⟨h1, h2, h3, h4⟩
  · constructor <;> simp only <;> omega
  · constructor <;> simp only <;> omega
def agedT (t : List (List Mind)) : Prop := ∀ l ∈ t, ∀ m ∈ l, Mind.aged m
theorem tickN_aged (n : Net) (t : List (List Mind)) : agedT (tickN n t) := fun l hl m hm => by
  unfold tickN at hl
  obtain ⟨k, _, rfl⟩ := List.mem_map.1 hl
  unfold tickT at hm
  obtain ⟨i, _, rfl⟩ := List.mem_map.1 hm
  exact mindOf_aged _ _ _ _ _
theorem ticksN_aged (n : Net) {t : List (List Mind)} (h : agedT t) : ∀ k, agedT (ticksN n t k)
  | 0 => h
  | _k + 1 => tickN_aged n _
theorem onLoop_aged : ∀ (l : List Doing) (i : Nat) (n : Net) (t : List (List Mind)), agedT t → ∀ r, (onLoop i l n t).1 = some r → agedT r.2
  | [], i, n, t, h, r, hr => by
    rw [onLoop] at hr
    injection hr with hr
    subst hr; exact h
  | d :: l, i, n, t, h, r, hr => by
    rw [onLoop] at hr
    split at hr
    · split at hr
      · cases hr
      · exact onLoop_aged l _ _ _ (ticksN_aged n h _) r hr
    · split at hr
      split at hr
      · cases hr
      · exact onLoop_aged l _ _ _ h r hr
theorem ticks_len (n : Net) (t : List (List Mind)) : ∀ k, (ticksN n t k).length = t.length
  | 0 => rfl
  | k + 1 => by
    rw [ticksN]
    unfold tickN
    rw [List.length_map, List.length_range, ticks_len n t k]
end Go.Proofs.Ytfmaehhloffabaa
