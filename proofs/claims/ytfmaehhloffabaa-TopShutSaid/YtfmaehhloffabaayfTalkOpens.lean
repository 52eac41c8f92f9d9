/- Law: TalkOpens. -/
import Derived.Test.YtfmaehhloffabaaydTlw
import Derived.Test.YtfmaehhloffabaaycTlk
import Derived.Test.YtfmaehhloffabaaydPlS
import Derived.Test.YtfmaehhloffabaaybInp
import Derived.Test.YtfmaehhloffabaaybLnd
import Derived.Test.YtfmaehhloffabaaydPlN
import Derived.Test.YtfmaehhloffabaayeChoose
import Derived.Test.YtfmaehhloffabaaycChM
namespace Go.Proofs.Ytfmaehhloffabaa
open Go.RowKit
theorem startA_cases (n : Net) (trees : Int) : ((startA n trees).2.1 ≠ 0 ∧ (startA n trees).1 = []) ∨ (n.wrong.1 = 0 ∧ 1 ≤ trees ∧ trees ≤ 4 ∧ startA n trees = (start0 n trees.toNat, (0, 0))) := by
  unfold startA
  by_cases h0 : n.wrong.1 ≠ 0
  · rw [if_pos h0]; exact .inl ⟨h0, rfl⟩
  · rw [if_neg h0]
    by_cases h1 : trees < 1 ∨ 4 < trees
    · rw [if_pos h1]; exact .inl ⟨by decide, rfl⟩
    · rw [if_neg h1]; exact .inr ⟨Decidable.not_not.1 h0, by omega, by omega, rfl⟩
attribute [local irreducible] SStep DW DWin DOps thenQ inBlk loopQ retQ retQG FnF FnG FnI FnM Wk IntKind.wrap IntKind.andI IntKind.orI IntKind.xorI IntKind.andNotI IntKind.shlI IntKind.shrI Net.wrong onA startA
set_option maxHeartbeats 4000000 in
theorem talk_Play (n : Net) (ht : n.typed) (trees : Int) (l : List Doing) : FnF Try.prog 9 [n.v, .int .i64 trees, .slice (l.map Doing.cells)] (onV (playA n trees l)) := by
  refine fnF_of Try.func9 rfl rfl rfl ?_
  simp only [envOf]
  have hs := talk_Start n ht trees
  unfold playA
  rcases startA_cases n trees with ⟨h1, h2⟩ | ⟨h0, h1, h2, he⟩
  · rw [if_pos h1]
    rw [h2] at hs
    generalize (startA n trees).2 = f at hs h1 ⊢
    obtain ⟨e, i⟩ := f
    simp only at h1
    repeat' (first | (apply Wa; constructor) | refine Wb rfl ?_ | refine Wc rfl ?_ | refine Wd (by kernel_rfl) ?_ | refine We rfl ?_ | refine Wf rfl ?_ | refine Wg rfl (by omega) ?_ | refine Wh rfl (by omega) ?_ | refine Wi rfl rfl ?_ | ((first | apply dX rfl | apply Da rfl rfl | apply Db rfl rfl (by intro h; first | trivial | exact ⟨h, trivial⟩ | exact ⟨h, h, trivial⟩)); (focus ((try intro hg); first | exact S_call hs rfl | exact Ca rfl rfl (by constructor) (by omega) | exact Cb rfl rfl (by constructor) (by omega) | exact S_al rfl | exact S_bx rfl rfl | exact S_store rfl rfl rfl rfl rfl rfl | (apply Pu.ok; repeat' (first | rfl | exact .inK (by simp only [InK]; omega) | exact .wr | constructor | decide | omega)))); constructor) | refine Pa rfl rfl rfl rfl rfl ?_ | refine Po rfl rfl rfl rfl rfl ?_ | fail)
    refine retN (.cellA inferInstance rfl rfl rfl rfl (by first | exact .inl rfl | exact .inr (flat_of rfl)) (.cellA inferInstance rfl rfl rfl rfl (by first | exact .inl rfl | exact .inr (flat_of rfl)) (.cellA inferInstance rfl rfl rfl rfl (by first | exact .inl rfl | exact .inr (flat_of rfl)) .nil))) ?_
    rfl
  · rw [he] at hs ⊢
    have hon := talk_On n ht (start0 n trees.toNat) (fun _ => ⟨start0_good (by omega), by simp [start0]; omega⟩) l
    simp only at hs
    simp only [ne_eq, not_true_eq_false, if_false]
    generalize onA n (start0 n trees.toNat) l = r at hon ⊢
    obtain ⟨o, f⟩ := r
    cases o with
    | none =>
      repeat' (first | (apply Wa; constructor) | refine Wb rfl ?_ | refine Wc rfl ?_ | refine Wd (by kernel_rfl) ?_ | refine We rfl ?_ | refine Wf rfl ?_ | refine Wg rfl (by omega) ?_ | refine Wh rfl (by omega) ?_ | refine Wi rfl rfl ?_ | ((first | apply dX rfl | apply Da rfl rfl | apply Db rfl rfl (by intro h; first | trivial | exact ⟨h, trivial⟩ | exact ⟨h, h, trivial⟩)); (focus ((try intro hg); first | exact S_call hs rfl | exact S_call hon rfl | exact Ca rfl rfl (by constructor) (by omega) | exact Cb rfl rfl (by constructor) (by omega) | exact S_al rfl | exact S_bx rfl rfl | exact S_store rfl rfl rfl rfl rfl rfl | (apply Pu.ok; repeat' (first | rfl | exact .inK (by simp only [InK]; omega) | exact .wr | constructor | decide | omega)))); constructor) | refine Pa rfl rfl rfl rfl rfl ?_ | refine Po rfl rfl rfl rfl rfl ?_ | fail)
      refine retN (.cellA inferInstance rfl rfl rfl rfl (by first | exact .inl rfl | exact .inr (flat_of rfl)) (.cellA inferInstance rfl rfl rfl rfl (by first | exact .inl rfl | exact .inr (flat_of rfl)) (.cellA inferInstance rfl rfl rfl rfl (by first | exact .inl rfl | exact .inr (flat_of rfl)) .nil))) ?_
      rfl
    | some p =>
      repeat' (first | (apply Wa; constructor) | refine Wb rfl ?_ | refine Wc rfl ?_ | refine Wd (by kernel_rfl) ?_ | refine We rfl ?_ | refine Wf rfl ?_ | refine Wg rfl (by omega) ?_ | refine Wh rfl (by omega) ?_ | refine Wi rfl rfl ?_ | ((first | apply dX rfl | apply Da rfl rfl | apply Db rfl rfl (by intro h; first | trivial | exact ⟨h, trivial⟩ | exact ⟨h, h, trivial⟩)); (focus ((try intro hg); first | exact S_call hs rfl | exact S_call hon rfl | exact Ca rfl rfl (by constructor) (by omega) | exact Cb rfl rfl (by constructor) (by omega) | exact S_al rfl | exact S_bx rfl rfl | exact S_store rfl rfl rfl rfl rfl rfl | (apply Pu.ok; repeat' (first | rfl | exact .inK (by simp only [InK]; omega) | exact .wr | constructor | decide | omega)))); constructor) | refine Pa rfl rfl rfl rfl rfl ?_ | refine Po rfl rfl rfl rfl rfl ?_ | fail)
      refine retN (.cellA inferInstance rfl rfl rfl rfl (by first | exact .inl rfl | exact .inr (flat_of rfl)) (.cellA inferInstance rfl rfl rfl rfl (by first | exact .inl rfl | exact .inr (flat_of rfl)) (.cellA inferInstance rfl rfl rfl rfl (by first | exact .inl rfl | exact .inr (flat_of rfl)) .nil))) ?_
      rfl
end Go.Proofs.Ytfmaehhloffabaa
namespace Go.Proofs.Ytfmaehhloffabaa
def regR : Region := ⟨[114], 0, []⟩
def brK (i : Nat) : Bridge := ⟨10 + (i : Int), [], regR⟩
def lkK (i : Nat) : Link := ⟨i, 2, (i : Int) + 1, 1, 10, true⟩
def lkR (k : Nat) : Link := ⟨(k : Int) - 1, 2, 0, 1, 10, true⟩
def ringLk (k : Nat) (ring : Bool) : List Link := if ring = true ∧ 2 < k then [lkR k] else []
def lineN (k : Nat) (ring : Bool) : Net := ⟨(List.range k).map brK, (List.range (k - 1)).map lkK ++ ringLk k ring⟩
theorem lineN_len (k : Nat) (ring : Bool) : (lineN k ring).bridges.length = k := by simp [lineN]
theorem lineN_br {k : Nat} {ring : Bool} {b : Bridge} (h : b ∈ (lineN k ring).bridges) : ∃ i, i < k ∧ b = brK i := by
  obtain ⟨i, hi, rfl⟩ := List.mem_map.1 h
  exact ⟨i, List.mem_range.1 hi, rfl⟩
theorem lineN_typed (k : Nat) (ring : Bool) : (lineN k ring).typed := ⟨fun b hb => by obtain ⟨i, _, rfl⟩ := lineN_br hb; simp only [brK]; omega, fun b hb => by obtain ⟨i, _, rfl⟩ := lineN_br hb; exact Nat.zero_le _⟩
theorem lineN_wrongs : ∀ k, k < 13 → ∀ r, (lineN k r).wrong = (0, 0) := by decide +kernel
theorem lineN_wrong {k : Nat} (hk : k ≤ 12) (r : Bool) : (lineN k r).wrong = (0, 0) := lineN_wrongs k (by omega) r
theorem lineN_good {k : Nat} (hk : k ≤ 12) (r : Bool) : (lineN k r).good := ((Net.wrong_iff (lineN_typed k r)).1 (by rw [lineN_wrong hk])).1
theorem lineN_id {k : Nat} {r : Bool} {i : Nat} (hi : i < k) : idN (lineN k r) 0 i = 9223372036854775818 + i := by
  rw [idN_of (b := brK i) (by simp [lineN, hi])]
  unfold Bridge.id Bridge.prio brK
  simp
  omega
theorem line_adj {k : Nat} {i : Nat} {e : End} (h : adjN (lineN k false) i e) : (i + 1 < k ∧ e = ⟨2, 10, (i : Int) + 1, 1⟩) ∨ (∃ j, i = j + 1 ∧ i < k ∧ e = ⟨1, 10, j, 2⟩) := by
  unfold adjN rawE at h
  obtain ⟨l, hl, he⟩ := List.mem_flatMap.1 h
  have hl := live_sub hl
  unfold lineN ringLk at hl
  rw [if_neg (by simp), List.append_nil] at hl
  obtain ⟨j, hj, rfl⟩ := List.mem_map.1 hl
  have hj := List.mem_range.1 hj
  unfold endAt lkK at he
  simp only at he
  rcases List.mem_append.1 he with he2 | he2
  · split at he2
    · rename_i hji
      have : j = i := by omega
      subst this
      rw [List.mem_singleton] at he2
      exact .inl ⟨by omega, he2⟩
    · cases he2
  · split at he2
    · rename_i hji
      rw [List.mem_singleton] at he2
      exact .inr ⟨j, by omega, by omega, he2⟩
    · cases he2
theorem region_one {n : Net} {r : Region} (h : n.good) (hr : ∀ b ∈ n.bridges, b.region = r) : liveL n = n.links.filter (·.up) :=
  liveL_one r hr (fun l hl => by have hk := h.lk l hl; have := hk.a0; have := hk.a1; have := hk.b0; have := hk.b1; omega)
theorem line_live {k : Nat} (hk : k ≤ 12) (r : Bool) : liveL (lineN k r) = (lineN k r).links := by
  rw [region_one (lineN_good hk r) (r := regR) (fun b hb => by obtain ⟨i, _, rfl⟩ := lineN_br hb; rfl)]
  refine List.filter_eq_self.2 fun l hl => ?_
  unfold lineN ringLk at hl
  rcases List.mem_append.1 hl with hl | hl
  · obtain ⟨j, _, rfl⟩ := List.mem_map.1 hl; rfl
  · split at hl
    · simp only [List.mem_singleton] at hl; subst hl; rfl
    · cases hl
theorem line_adjB {k j : Nat} (hk : k ≤ 12) (hj : j + 1 < k) : adjN (lineN k false) (j + 1) ⟨1, 10, j, 2⟩ := by
  unfold adjN rawE
  rw [line_live hk]
  refine List.mem_flatMap.2 ⟨lkK j, ?_, ?_⟩
  · unfold lineN
    exact List.mem_append.2 (.inl (List.mem_map.2 ⟨j, List.mem_range.2 (by omega), rfl⟩))
  · unfold endAt lkK
    simp only
    refine List.mem_append.2 (.inr ?_)
    rw [if_pos (by omega)]
    exact List.mem_singleton.2 rfl
structure Word (i T : Nat) (m : Mind) : Prop where
  r : m.vec.root = 9223372036854775818 + ((i - T : Nat) : Int)
  c : m.vec.cost = 10 * ((min i T : Nat) : Int)
  a : m.age = ((min i T : Nat) : Int)
theorem start_at {n : Net} {tree : Int} {i : Nat} (hi : i < n.bridges.length) : mAt ((List.range n.bridges.length).map (mind0 n tree)) i = mind0 n tree i := by
  unfold mAt
  rw [List.getElem?_map, List.getElem?_range hi]; rfl
theorem line_word {k : Nat} (hk : k ≤ 12) : ∀ T i, i < k → Word i T (mAt (tkN (lineN k false) 0 ((List.range (lineN k false).bridges.length).map (mind0 (lineN k false) 0)) T) i)
  | 0, i, hi => by
    show Word i 0 (mAt ((List.range (lineN k false).bridges.length).map (mind0 (lineN k false) 0)) i)
    rw [start_at (by rw [lineN_len]; exact hi)]
    have := lineN_id (r := false) hi
    exact ⟨by show idN _ _ _ = _; rw [this]; simp, by simp [mind0], by simp [mind0]⟩
  | T + 1, i, hi => by
    have ih := line_word hk T
    have h := lineN_good hk false
    have hll : i < ((List.range (lineN k false).bridges.length).map (mind0 (lineN k false) 0)).length := by rw [List.length_map, List.length_range, lineN_len]; exact hi
    rw [tkN_at hll]
    generalize tkN (lineN k false) 0 ((List.range (lineN k false).bridges.length).map (mind0 (lineN k false) 0)) T = l at ih
    have hid := lineN_id (r := false) hi
    have hcan : ∀ j, i = j + 1 → CanH (idN (lineN k false) 0 i) l ⟨1, 10, j, 2⟩ := fun j hj => by
      have := ih j (by omega)
      have h1 := this.r
      have h2 := this.c
      have h3 := this.a
      refine ⟨?_, ?_, ?_, ?_, ?_⟩ <;> simp only [Int.toNat_natCast] <;> omega
    rcases mind_cases h 0 i l with ⟨_, h2, h3, h4, hno⟩ | ⟨e, he, hq, _, h4, h5, h6, hmin⟩
    · by_cases hi0 : i = 0
      · subst hi0
        exact ⟨by rw [h3, hid]; simp, by rw [h4]; simp, by rw [h2]; simp⟩
      · obtain ⟨j, hj⟩ : ∃ j, i = j + 1 := ⟨i - 1, by omega⟩
        exact absurd (hcan j hj) (hno _ (by rw [hj]; exact line_adjB hk (by omega)))
    · rcases line_adj he with ⟨hk2, rfl⟩ | ⟨j, hj, _, rfl⟩
      · exfalso
        have h1 := ih (i + 1) hk2
        have hr := hq.r
        rw [hid] at hr
        simp only [show ((i : Int) + 1).toNat = i + 1 by omega] at hr
        rw [h1.r] at hr
        by_cases hi0 : i = 0
        · omega
        obtain ⟨j, hj⟩ : ∃ j, i = j + 1 := ⟨i - 1, by omega⟩
        have hw := hmin _ (by rw [hj]; exact line_adjB hk (by omega)) (hcan j hj)
        have h2 := ih j (by omega)
        unfold Vec.le2 at hw
        rw [Vec.cmp_lt, Vec.cmp_eq] at hw
        unfold wH at hw
        simp only [show ((i : Int) + 1).toNat = i + 1 by omega, Int.toNat_natCast] at hw
        rw [h1.r, h1.c, h2.r, h2.c] at hw
        omega
      · subst hj
        have h1 := ih j (by omega)
        simp only [Int.toNat_natCast] at h4 h5 h6
        rw [h1.r] at h5
        rw [h1.c] at h6
        rw [h1.a] at h4
        exact ⟨by rw [h5]; omega, by rw [h6]; omega, by rw [h4]; omega⟩
def cutN (k : Nat) : Net := ⟨(lineN k false).bridges, (lineN k false).links.modify 0 fun l => { l with up := false }⟩
theorem cut_do {k : Nat} (hk : 3 ≤ k) : doS (lineN k false) ⟨3, 0, 0, 0⟩ = (cutN k, 0) := by
  have hl : (lineN k false).links.length = k - 1 := by simp [lineN, ringLk]
  unfold doS
  rw [if_pos (.inr (.inl rfl)), if_neg (by rw [hl]; simp only; omega), if_pos (by decide)]
  rfl
theorem cut_adj {k : Nat} {i : Nat} {e : End} (hi : 1 ≤ i) (h : adjN (cutN k) i e) : 1 ≤ e.other.toNat := by
  unfold adjN rawE at h
  obtain ⟨l, hl, he⟩ := List.mem_flatMap.1 h
  have hup : l.up = true := by
    have := (List.mem_filter.1 hl).2
    unfold liveB at this
    rw [Bool.and_eq_true] at this
    exact this.1
  have hl := live_sub hl
  unfold cutN lineN ringLk at hl
  rw [if_neg (by simp), List.append_nil] at hl
  simp only at hl
  obtain ⟨j, hj, rfl⟩ : ∃ j, 1 ≤ j ∧ l = lkK j := by
    cases hk : k - 1 with
    | zero => rw [hk] at hl; simp at hl
    | succ m =>
      rw [hk, List.range_succ_eq_map, List.map_cons, List.modify_zero_cons] at hl
      rcases List.mem_cons.1 hl with rfl | hl
      · simp at hup
      · obtain ⟨j, hj, rfl⟩ := List.mem_map.1 hl
        obtain ⟨j', _, rfl⟩ := List.mem_map.1 hj
        exact ⟨j' + 1, by omega, rfl⟩
  unfold endAt lkK at he
  simp only at he
  rcases List.mem_append.1 he with he | he
  · split at he
    · simp only [List.mem_singleton] at he; subst he; simp only; omega
    · cases he
  · split at he
    · simp only [List.mem_singleton] at he; subst he; simp only; omega
    · cases he
theorem cut_walk {k : Nat} (hg : (cutN k).good) {a i : Nat} {r c : Int} (hw : RW (cutN k) 0 a i r c) : 1 ≤ i → i < (cutN k).bridges.length → r ≠ idN (cutN k) 0 0 := by
  induction hw with
  | own i => exact fun h1 h2 e => by have := idN_inj hg 0 h2 (by omega) e; omega
  | step he _ ih => exact fun h1 h2 => ih (cut_adj h1 he) (adj_ok hg he).2.2.1
theorem cut_good {k : Nat} (hk : 3 ≤ k) (hk2 : k ≤ 12) : (cutN k).good := by
  have := doS_good (lineN_good hk2 false) ⟨3, 0, 0, 0⟩ (by rw [cut_do hk])
  rw [cut_do hk] at this
  exact this
theorem ghost {k : Nat} (hk : 3 ≤ k) (hk2 : k ≤ 12) {l : List Mind} (hl : l.length = k) {T : Nat} (hT : 21 ≤ T) {i : Nat} (h1 : 1 ≤ i) (hi : i < k) : (mAt (tkN (cutN k) 0 l T) i).vec.root ≠ 9223372036854775818 := by
  have hg := cut_good hk hk2
  have hlen : (cutN k).bridges.length = k := lineN_len k false
  have := cut_walk hg (live_all hg 0 (by rw [hlen]; exact hl) (by rw [hlen]; exact hi) hT).1 h1 (by rw [hlen]; exact hi)
  have e : idN (cutN k) 0 0 = 9223372036854775818 := by
    have := lineN_id (k := k) (r := false) (i := 0) (by omega)
    exact this
  rw [e] at this
  exact this
def roleX (ps : List Place) (i : Nat) (p : Int) : Int := match ps[i]? with
  | none => 0
  | some q => match ixI p q.ports with
    | none => 0
    | some k => (q.roles[k]?).getD 0
end Go.Proofs.Ytfmaehhloffabaa
namespace Go.Proofs.Ytfmaehhloffabaa
open Go.RowKit
attribute [local irreducible] SStep DW DWin DOps thenQ inBlk loopQ retQ retQG FnF FnG FnI FnM Wk IntKind.wrap IntKind.andI IntKind.orI IntKind.xorI IntKind.andNotI IntKind.shlI IntKind.shrI
theorem top_ticks (k : Int) : FnF Try.prog 10 [.int .i64 k] (.agg (Doing.cells ⟨1, k, 0, 0⟩)) := by
  refine fnF_of Try.func10 rfl rfl rfl ?_
  simp only [envOf]
  repeat' (first | (apply Wa; constructor) | refine Wb rfl ?_ | refine Wc rfl ?_ | refine Wd (by kernel_rfl) ?_ | refine We rfl ?_ | refine Wf rfl ?_ | refine Wi rfl rfl ?_ | ((first | apply dX rfl | apply Da rfl rfl | apply Db rfl rfl (by intro h; first | trivial | exact ⟨h, trivial⟩ | exact ⟨h, h, trivial⟩)); (focus ((try intro hg); first | exact S_al rfl | exact S_bx rfl rfl | exact S_store rfl rfl rfl rfl rfl rfl | (apply Pu.ok; repeat' (first | rfl | exact .inK (by simp only [InK]; omega) | exact .wr | constructor | decide | omega)))); constructor) | refine Pa rfl rfl rfl rfl rfl ?_ | refine Po rfl rfl rfl rfl rfl ?_ | fail)
  refine retN (.cellA inferInstance rfl rfl rfl rfl (by first | exact .inl rfl | exact .inr (flat_of rfl)) .nil) ?_
  rfl
theorem range_brK (i : Nat) : (List.range (i + 1)).map brK = (List.range i).map brK ++ [⟨10 + (i : Int), [], regR⟩] := by
  rw [List.range_succ, List.map_append]; rfl
theorem range_lkK {i : Nat} (h : 0 < i) : (List.range (i + 1 - 1)).map lkK = (List.range (i - 1)).map lkK ++ [⟨(i : Int) - 1, 2, (i : Int), 1, 10, true⟩] := by
  obtain ⟨j, rfl⟩ : ∃ j, i = j + 1 := ⟨i - 1, by omega⟩
  rw [show j + 1 + 1 - 1 = j + 1 by omega, show j + 1 - 1 = j by omega, List.range_succ, List.map_append]
  unfold lkK
  simp only [List.map_cons, List.map_nil]
  rw [show (((j + 1 : Nat) : Int)) - 1 = (j : Int) by omega, show (((j + 1 : Nat) : Int)) = (j : Int) + 1 by omega]
set_option maxHeartbeats 8000000 in
theorem top_line (k : Nat) (hk : k ≤ 12) (ring : Bool) : FnF Try.prog 8 [.int .i64 k, .bool ring] (lineN k ring).v := by
  refine fnF_of Try.func8 rfl rfl rfl ?_
  simp only [envOf]
  repeat' (first | (apply Wa; constructor) | refine Wb rfl ?_ | refine Wc rfl ?_ | refine Wd (by kernel_rfl) ?_ | refine We rfl ?_ | refine Wf rfl ?_ | refine Wg rfl (by omega) ?_ | refine Wh rfl (by omega) ?_ | refine Wi rfl rfl ?_ | ((first | apply dX rfl | apply Da rfl rfl | apply Db rfl rfl (by intro h; first | trivial | exact ⟨h, trivial⟩ | exact ⟨h, h, trivial⟩)); (focus ((try intro hg); first | exact Ca rfl rfl (by constructor) (by omega) | exact Cb rfl rfl (by constructor) (by omega) | exact S_al rfl | exact S_bx rfl rfl | exact S_store rfl rfl rfl rfl rfl rfl | (apply Pu.ok; repeat' (first | rfl | exact .inK (by simp only [InK]; omega) | exact .wr | constructor | decide | omega)))); constructor) | refine Pa rfl rfl rfl rfl rfl ?_ | refine Po rfl rfl rfl rfl rfl ?_ | fail)
  refine DW_loop (fun q : Nat × List Bridge × List Link => ⟨[(0, .dat false (.int .i64 k)), (1, .dat false (.bool ring)), (4, .ptr 4 0), (5, .ptr 5 0), (7, .dat false (.int .i64 k)), (8, .dat true (.int .i64 q.1))], [(4, .cells false true [.nil, .nil]), (5, .cells false true [.own 900 0 0 q.2.1.length, .own 901 0 0 q.2.2.length]), (900, .row 0 false true 5 (q.2.1.map bridgeV)), (901, .row 0 false true 6 (q.2.2.map linkV))], 47⟩)
    (fun q => q.1 ≤ k ∧ q.2.1 = (List.range q.1).map brK ∧ q.2.2 = (List.range (q.1 - 1)).map lkK) (fun q => k - q.1) (0, [], []) ⟨Nat.zero_le _, rfl, rfl⟩
    (Wk_g (fun g => if g = 900 then none else if g = 901 then none else some g) rfl rfl (by (repeat' (first | exact trivial | rfl | exact listLe_map _ | exact ⟨_, rfl, .inl rfl⟩ | exact ⟨_, rfl, .inr (.inl rfl)⟩ | exact ⟨_, rfl, .inr (.inr rfl)⟩ | refine ⟨_, _, rfl, rfl, ?_⟩ | exact ⟨_, rfl, rfl⟩ | exact ⟨_, _, _, _, rfl, rfl, rfl⟩ | exact ⟨_, rfl⟩ | exact ⟨_, _, rfl⟩ | apply And.intro)))) (fun q hR => ?_)
  obtain ⟨i, bs, ls⟩ := q
  obtain ⟨hi, hbs, hls⟩ := hR
  simp only at hi hbs hls
  dsimp only
  have hbl : bs.length = i := by rw [hbs]; simp
  have hll : ls.length = i - 1 := by rw [hls]; simp
  by_cases hlt : i < k
  · have hb1 := range_brK i
    rw [← hbs] at hb1
    by_cases h0 : 0 < i
    · have hl1 := range_lkK h0
      rw [← hls] at hl1
      repeat' (first | (apply Wa; constructor) | refine Wb rfl ?_ | refine Wc rfl ?_ | refine Wd (by kernel_rfl) ?_ | refine We rfl ?_ | refine Wf rfl ?_ | refine Wg rfl (by omega) ?_ | refine Wh rfl (by omega) ?_ | refine Wi rfl rfl ?_ | ((first | apply dX rfl | apply Da rfl rfl | apply Db rfl rfl (by intro h; first | trivial | exact ⟨h, trivial⟩ | exact ⟨h, h, trivial⟩)); (focus ((try intro hg); first | exact S_appM (f := bridgeV) (us := bs) (bs := [⟨10 + (i : Int), [], regR⟩]) rfl rfl (.dat _ _) rfl rfl (.inl rfl) rfl (by simp only [List.length_singleton]; omega) | exact S_appM (f := linkV) (us := ls) (bs := [⟨(i : Int) - 1, 2, (i : Int), 1, 10, true⟩]) rfl rfl (.dat _ _) rfl rfl (.inl rfl) rfl (by simp only [List.length_singleton]; omega) | exact Ca rfl rfl (by constructor) (by omega) | exact Cb rfl rfl (by constructor) (by omega) | exact S_al rfl | exact S_bx rfl rfl | exact S_store rfl rfl rfl rfl rfl rfl | (apply Pu.ok; repeat' (first | rfl | exact .inK (by simp only [InK]; omega) | exact .wr | constructor | decide | omega)))); constructor) | refine Pa rfl rfl rfl rfl rfl ?_ | refine Po rfl rfl rfl rfl rfl ?_ | fail)
      exact loop_again (i + 1, bs ++ [(⟨10 + (i : Int), [], regR⟩ : Bridge)], ls ++ [(⟨(i : Int) - 1, 2, (i : Int), 1, 10, true⟩ : Link)]) ⟨hlt, hb1.symm, hl1.symm⟩ (by simp only; omega) (Wk_g some rfl rfl (by (repeat' (first | exact ownLe2 rfl rfl rfl | exact trivial | rfl | exact listLe_map _ | exact ⟨_, rfl, .inl rfl⟩ | exact ⟨_, rfl, .inr (.inl rfl)⟩ | exact ⟨_, rfl, .inr (.inr rfl)⟩ | refine ⟨_, _, rfl, rfl, ?_⟩ | exact ⟨_, rfl, rfl⟩ | exact ⟨_, _, _, _, rfl, rfl, rfl⟩ | exact ⟨_, rfl⟩ | exact ⟨_, _, rfl⟩ | apply And.intro))))
    · repeat' (first | (apply Wa; constructor) | refine Wb rfl ?_ | refine Wc rfl ?_ | refine Wd (by kernel_rfl) ?_ | refine We rfl ?_ | refine Wf rfl ?_ | refine Wg rfl (by omega) ?_ | refine Wh rfl (by omega) ?_ | refine Wi rfl rfl ?_ | ((first | apply dX rfl | apply Da rfl rfl | apply Db rfl rfl (by intro h; first | trivial | exact ⟨h, trivial⟩ | exact ⟨h, h, trivial⟩)); (focus ((try intro hg); first | exact S_appM (f := bridgeV) (us := bs) (bs := [⟨10 + (i : Int), [], regR⟩]) rfl rfl (.dat _ _) rfl rfl (.inl rfl) rfl (by simp only [List.length_singleton]; omega) | exact Ca rfl rfl (by constructor) (by omega) | exact Cb rfl rfl (by constructor) (by omega) | exact S_al rfl | exact S_bx rfl rfl | exact S_store rfl rfl rfl rfl rfl rfl | (apply Pu.ok; repeat' (first | rfl | exact .inK (by simp only [InK]; omega) | exact .wr | constructor | decide | omega)))); constructor) | refine Pa rfl rfl rfl rfl rfl ?_ | refine Po rfl rfl rfl rfl rfl ?_ | fail)
      exact loop_again (i + 1, bs ++ [(⟨10 + (i : Int), [], regR⟩ : Bridge)], ls) ⟨hlt, hb1.symm, by rw [hls, show i = 0 by omega]; rfl⟩ (by simp only; omega) (Wk_g some rfl rfl (by (repeat' (first | exact ownLe2 rfl rfl rfl | exact trivial | rfl | exact listLe_map _ | exact ⟨_, rfl, .inl rfl⟩ | exact ⟨_, rfl, .inr (.inl rfl)⟩ | exact ⟨_, rfl, .inr (.inr rfl)⟩ | refine ⟨_, _, rfl, rfl, ?_⟩ | exact ⟨_, rfl, rfl⟩ | exact ⟨_, _, _, _, rfl, rfl, rfl⟩ | exact ⟨_, rfl⟩ | exact ⟨_, _, rfl⟩ | apply And.intro))))
  · have hik : i = k := by omega
    subst hik
    by_cases hr : ring = true ∧ 2 < i
    · obtain ⟨hr1, hr2⟩ := hr
      subst hr1
      have hlr : lineN i true = ⟨bs, ls ++ [⟨(i : Int) - 1, 2, 0, 1, 10, true⟩]⟩ := by
        unfold lineN ringLk
        rw [if_pos ⟨rfl, hr2⟩, hbs, hls]; rfl
      repeat' (first | refine DW_mark 901 (bx := .row (0 + 1) false true 6 ((ls ++ [(⟨(i : Int) - 1, 2, 0, 1, 10, true⟩ : Link)]).map linkV)) rfl ?_ | (apply Wa; constructor) | refine Wb rfl ?_ | refine Wc rfl ?_ | refine Wd (by kernel_rfl) ?_ | refine We rfl ?_ | refine Wf rfl ?_ | refine Wg rfl (by omega) ?_ | refine Wh rfl (by omega) ?_ | refine Wi rfl rfl ?_ | ((first | apply dX rfl | apply Da rfl rfl | apply Db rfl rfl (by intro h; first | trivial | exact ⟨h, trivial⟩ | exact ⟨h, h, trivial⟩)); (focus ((try intro hg); first | exact S_appM (f := linkV) (us := ls) (bs := [⟨(i : Int) - 1, 2, 0, 1, 10, true⟩]) rfl rfl (.dat _ _) rfl rfl (.inl rfl) rfl (by simp only [List.length_singleton]; omega) | exact Ca rfl rfl (by constructor) (by omega) | exact Cb rfl rfl (by constructor) (by omega) | exact S_al rfl | exact S_bx rfl rfl | exact S_store rfl rfl rfl rfl rfl rfl | (apply Pu.ok; repeat' (first | rfl | exact .inK (by simp only [InK]; omega) | exact .wr | constructor | decide | omega)))); constructor) | refine Pa rfl rfl rfl rfl rfl ?_ | refine Po rfl rfl rfl rfl rfl ?_ | fail)
      intro _
      refine DW_weak (s' := ⟨[(4, .ptr 4 0), (5, .ptr 5 0)], [(4, .cells false true [.nil, .nil]), (5, .cells false true [.own 900 0 0 bs.length, .own 901 0 0 (ls ++ [(⟨(i : Int) - 1, 2, 0, 1, 10, true⟩ : Link)]).length]), (900, .row 0 false true 5 (bs.map bridgeV)), (901, .row 0 false true 6 ((ls ++ [(⟨(i : Int) - 1, 2, 0, 1, 10, true⟩ : Link)]).map linkV))], 47⟩) (Wk_g some rfl rfl (by (repeat' (first | exact ownLe2 rfl rfl rfl | exact trivial | rfl | exact listLe_map _ | exact ⟨_, rfl, .inl rfl⟩ | exact ⟨_, rfl, .inr (.inl rfl)⟩ | exact ⟨_, rfl, .inr (.inr rfl)⟩ | refine ⟨_, _, rfl, rfl, ?_⟩ | exact ⟨_, rfl, rfl⟩ | exact ⟨_, _, _, _, rfl, rfl, rfl⟩ | exact ⟨_, rfl⟩ | exact ⟨_, _, rfl⟩ | apply And.intro)))) ?_
      refine DW_freeze 900 (fun _ _ _ h => by cases h) ?_
      refine DW_freeze 901 (fun _ _ _ h => by cases h) ?_
      repeat' (first | (apply Wa; constructor) | refine Wb rfl ?_ | refine Wc rfl ?_ | refine Wd (by kernel_rfl) ?_ | refine We rfl ?_ | refine Wf rfl ?_ | refine Wg rfl (by omega) ?_ | refine Wh rfl (by omega) ?_ | refine Wi rfl rfl ?_ | ((first | apply dX rfl | apply Da rfl rfl | apply Db rfl rfl (by intro h; first | trivial | exact ⟨h, trivial⟩ | exact ⟨h, h, trivial⟩)); (focus ((try intro hg); first | exact Ca rfl rfl (by constructor) (by omega) | exact Cb rfl rfl (by constructor) (by omega) | exact S_al rfl | exact S_bx rfl rfl | exact S_store rfl rfl rfl rfl rfl rfl | (apply Pu.ok; repeat' (first | rfl | exact .inK (by simp only [InK]; omega) | exact .wr | constructor | decide | omega)))); constructor) | refine Pa rfl rfl rfl rfl rfl ?_ | refine Po rfl rfl rfl rfl rfl ?_ | fail)
      refine retN (.cellA inferInstance rfl rfl rfl rfl (by first | exact .inl rfl | exact .inr (flat_of rfl)) .nil) ?_
      rw [hlr]
      show V.agg [V.slice (List.take _ (List.drop 0 _)), V.slice (List.take _ (List.drop 0 _))] = _
      rw [List.drop_zero, List.drop_zero, List.take_of_length_le (by simp), List.take_of_length_le (by simp)]
      rfl
    · have hlr : lineN i ring = ⟨bs, ls⟩ := by
        unfold lineN ringLk
        rw [if_neg hr, hbs, hls, List.append_nil]
      cases ring with
      | false =>
        refine DW_weak (s' := ⟨[(0, .dat false (.int .i64 i)), (1, .dat false (.bool false)), (4, .ptr 4 0), (5, .ptr 5 0), (7, .dat false (.int .i64 i)), (8, .dat true (.int .i64 i))], [(4, .cells false true [.nil, .nil]), (5, .cells false true [.own 900 0 0 bs.length, .own 901 0 0 ls.length]), (900, .row 0 false true 5 (bs.map bridgeV)), (901, .row 0 false true 6 (ls.map linkV))], 47⟩) (Wk_g some rfl rfl (by (repeat' (first | exact ownLe2 rfl rfl rfl | exact trivial | rfl | exact listLe_map _ | exact ⟨_, rfl, .inl rfl⟩ | exact ⟨_, rfl, .inr (.inl rfl)⟩ | exact ⟨_, rfl, .inr (.inr rfl)⟩ | refine ⟨_, _, rfl, rfl, ?_⟩ | exact ⟨_, rfl, rfl⟩ | exact ⟨_, _, _, _, rfl, rfl, rfl⟩ | exact ⟨_, rfl⟩ | exact ⟨_, _, rfl⟩ | apply And.intro)))) ?_
        refine DW_freeze 900 (fun _ _ _ h => by cases h) ?_
        refine DW_freeze 901 (fun _ _ _ h => by cases h) ?_
        repeat' (first | (apply Wa; constructor) | refine Wb rfl ?_ | refine Wc rfl ?_ | refine Wd (by kernel_rfl) ?_ | refine We rfl ?_ | refine Wf rfl ?_ | refine Wg rfl (by omega) ?_ | refine Wh rfl (by omega) ?_ | refine Wi rfl rfl ?_ | ((first | apply dX rfl | apply Da rfl rfl | apply Db rfl rfl (by intro h; first | trivial | exact ⟨h, trivial⟩ | exact ⟨h, h, trivial⟩)); (focus ((try intro hg); first | exact Ca rfl rfl (by constructor) (by omega) | exact Cb rfl rfl (by constructor) (by omega) | exact S_al rfl | exact S_bx rfl rfl | exact S_store rfl rfl rfl rfl rfl rfl | (apply Pu.ok; repeat' (first | rfl | exact .inK (by simp only [InK]; omega) | exact .wr | constructor | decide | omega)))); constructor) | refine Pa rfl rfl rfl rfl rfl ?_ | refine Po rfl rfl rfl rfl rfl ?_ | fail)
        refine retN (.cellA inferInstance rfl rfl rfl rfl (by first | exact .inl rfl | exact .inr (flat_of rfl)) .nil) ?_
        rw [hlr]
        show V.agg [V.slice (List.take _ (List.drop 0 _)), V.slice (List.take _ (List.drop 0 _))] = _
        rw [List.drop_zero, List.drop_zero, List.take_of_length_le (by simp), List.take_of_length_le (by simp)]
        rfl
      | true =>
        have h2 : ¬ 2 < i := fun h => hr ⟨rfl, h⟩
        refine DW_weak (s' := ⟨[(0, .dat false (.int .i64 i)), (1, .dat false (.bool true)), (4, .ptr 4 0), (5, .ptr 5 0), (7, .dat false (.int .i64 i)), (8, .dat true (.int .i64 i))], [(4, .cells false true [.nil, .nil]), (5, .cells false true [.own 900 0 0 bs.length, .own 901 0 0 ls.length]), (900, .row 0 false true 5 (bs.map bridgeV)), (901, .row 0 false true 6 (ls.map linkV))], 47⟩) (Wk_g some rfl rfl (by (repeat' (first | exact ownLe2 rfl rfl rfl | exact trivial | rfl | exact listLe_map _ | exact ⟨_, rfl, .inl rfl⟩ | exact ⟨_, rfl, .inr (.inl rfl)⟩ | exact ⟨_, rfl, .inr (.inr rfl)⟩ | refine ⟨_, _, rfl, rfl, ?_⟩ | exact ⟨_, rfl, rfl⟩ | exact ⟨_, _, _, _, rfl, rfl, rfl⟩ | exact ⟨_, rfl⟩ | exact ⟨_, _, rfl⟩ | apply And.intro)))) ?_
        refine DW_freeze 900 (fun _ _ _ h => by cases h) ?_
        refine DW_freeze 901 (fun _ _ _ h => by cases h) ?_
        repeat' (first | (apply Wa; constructor) | refine Wb rfl ?_ | refine Wc rfl ?_ | refine Wd (by kernel_rfl) ?_ | refine We rfl ?_ | refine Wf rfl ?_ | refine Wg rfl (by omega) ?_ | refine Wh rfl (by omega) ?_ | refine Wi rfl rfl ?_ | ((first | apply dX rfl | apply Da rfl rfl | apply Db rfl rfl (by intro h; first | trivial | exact ⟨h, trivial⟩ | exact ⟨h, h, trivial⟩)); (focus ((try intro hg); first | exact Ca rfl rfl (by constructor) (by omega) | exact Cb rfl rfl (by constructor) (by omega) | exact S_al rfl | exact S_bx rfl rfl | exact S_store rfl rfl rfl rfl rfl rfl | (apply Pu.ok; repeat' (first | rfl | exact .inK (by simp only [InK]; omega) | exact .wr | constructor | decide | omega)))); constructor) | refine Pa rfl rfl rfl rfl rfl ?_ | refine Po rfl rfl rfl rfl rfl ?_ | fail)
        refine retN (.cellA inferInstance rfl rfl rfl rfl (by first | exact .inl rfl | exact .inr (flat_of rfl)) .nil) ?_
        rw [hlr]
        show V.agg [V.slice (List.take _ (List.drop 0 _)), V.slice (List.take _ (List.drop 0 _))] = _
        rw [List.drop_zero, List.drop_zero, List.take_of_length_le (by simp), List.take_of_length_le (by simp)]
        rfl
end Go.Proofs.Ytfmaehhloffabaa
namespace Go.Proofs.Ytfmaehhloffabaa
def upL (n : Net) : List Link := n.links.filter (·.up)
def cz (c : List Int) (i : Nat) : Int := (c[i]?).getD 0
def distB (n : Net) (tree : Int) (r : Nat) (c : List Int) : Bool :=
  decide (r < n.bridges.length) && decide (cz c r = 0) && (List.range n.bridges.length).all fun i => decide (0 ≤ cz c i) && ((rawE (upL n) i).all fun e => decide (cz c i ≤ cz c e.other.toNat + e.cost)) && (decide (i = r) || (((rawE (upL n) i).any fun e => decide (cz c i = cz c e.other.toNat + e.cost)) && decide (idN n tree r < idN n tree i)))
structure Dist (n : Net) (tree : Int) (r : Nat) (c : List Int) : Prop where
  rb : r < n.bridges.length
  z : cz c r = 0
  p : ∀ i, i < n.bridges.length → 0 ≤ cz c i
  le : ∀ i, i < n.bridges.length → ∀ e, adjN n i e → cz c i ≤ cz c e.other.toNat + e.cost
  ex : ∀ i, i < n.bridges.length → i ≠ r → (∃ e, adjN n i e ∧ cz c i = cz c e.other.toNat + e.cost) ∧ idN n tree r < idN n tree i
theorem dist_of {n : Net} {reg : Region} (h : n.good) (hr : ∀ b ∈ n.bridges, b.region = reg) {tree : Int} {r : Nat} {c : List Int} (hd : distB n tree r c = true) : Dist n tree r c := by
  unfold distB at hd
  simp only [Bool.and_eq_true, decide_eq_true_eq, List.all_eq_true, List.mem_range, Bool.or_eq_true, List.any_eq_true] at hd
  obtain ⟨⟨h1, h2⟩, h3⟩ := hd
  have hl : liveL n = upL n := region_one h hr
  refine ⟨h1, h2, fun i hi => (h3 i hi).1.1, fun i hi e he => (h3 i hi).1.2 e (by unfold adjN at he; rw [hl] at he; exact he), fun i hi hne => ?_⟩
  rcases (h3 i hi).2 with h4 | ⟨⟨e, he, h5⟩, h6⟩
  · exact absurd h4 hne
  · exact ⟨⟨e, by unfold adjN; rw [hl]; exact he, h5⟩, h6⟩
section
variable {n : Net} (h : n.good) {tree : Int} {r : Nat} {c : List Int} (hd : Dist n tree r c)
include h hd
theorem dist_up : ∀ (k i : Nat), i < n.bridges.length → cz c i ≤ k → leL (sF n tree i).root (sF n tree i).cost (idN n tree r) (cz c i)
  | k, i, hi, hk => by
    by_cases e : i = r
    · subst e
      rw [hd.z]; exact fin_own h tree hi
    · obtain ⟨⟨e', he, h1⟩, _⟩ := hd.ex i hi e
      have ho := adj_ok h he
      match k, hk with
      | 0, hk => have := hd.p _ ho.2.2.1; simp only [Int.natCast_zero] at hk; omega
      | k + 1, hk =>
        have := dist_up k _ ho.2.2.1 (by omega)
        rw [h1]
        exact leL_trans (fin_le h tree hi he) (leL_add _ this)
theorem dist_lo : ∀ (k i : Nat), i < n.bridges.length → (sF n tree i).cost ≤ k → idN n tree r ≤ (sF n tree i).root ∧ ((sF n tree i).root = idN n tree r → cz c i ≤ (sF n tree i).cost)
  | k, i, hi, hk => by
    rcases fin_at h tree hi with ⟨h1, h2, _⟩ | ⟨e, he, h1, h2, _⟩
    · rw [h1, h2]
      by_cases e : i = r
      · subst e
        rw [hd.z]; exact ⟨Int.le_refl _, fun _ => Int.le_refl _⟩
      · have := (hd.ex i hi e).2
        exact ⟨by omega, fun h => by omega⟩
    · have ho := adj_ok h he
      have hc := fin_cost h tree ho.2.2.1
      match k, hk with
      | 0, hk => simp only [Int.natCast_zero] at hk; omega
      | k + 1, hk =>
        obtain ⟨g1, g2⟩ := dist_lo k _ ho.2.2.1 (by omega)
        rw [h1, h2]
        refine ⟨g1, fun hh => ?_⟩
        have := g2 hh
        have := hd.le i hi e he
        omega
theorem dist_fin {i : Nat} (hi : i < n.bridges.length) : (sF n tree i).root = idN n tree r ∧ (sF n tree i).cost = cz c i := by
  have hp := hd.p i hi
  have hc := fin_cost h tree hi
  have h1 := dist_up h hd (cz c i).toNat i hi (by omega)
  obtain ⟨h2, h3⟩ := dist_lo h hd (sF n tree i).cost.toNat i hi (by omega)
  unfold leL at h1
  have : (sF n tree i).root = idN n tree r := by omega
  exact ⟨this, by have := h3 this; omega⟩
end
def sayS (n : Net) (tree : Int) (r : Nat) (c : List Int) : List Vec := (List.range n.bridges.length).map fun i => ⟨idN n tree r, cz c i, idN n tree i, 0⟩
def planS (n : Net) (tree : Int) (r : Nat) (c : List Int) : List Place := (List.range n.bridges.length).map fun i => placeC (idN n tree i) (isoE (rawE (upL n) i)) (isoP (rawP n.links (i : Nat))) ⟨idN n tree r, cz c i, idN n tree i, 0⟩ (sayS n tree r c) (sayS n tree r c)
theorem says_S {n : Net} (h : n.good) {tree : Int} {r : Nat} {c : List Int} (hd : Dist n tree r c) : saysN n tree (n.bridges.length + 1) = sayS n tree r c := by
  apply List.ext_getElem?
  intro i
  unfold sayS
  by_cases hi : i < n.bridges.length
  · rw [sayN_get hi, List.getElem?_map, List.getElem?_range hi, Option.map_some]
    obtain ⟨h1, h2⟩ := dist_fin h hd hi
    obtain ⟨h3, h4⟩ := sF_ids (tree := tree) hi
    exact congrArg some (Vec.ext4 h1 h2 h3 h4)
  · rw [List.getElem?_eq_none (by rw [saysN_len]; omega), List.getElem?_eq_none (by simp; omega)]
theorem planF_S {n : Net} {reg : Region} (h : n.good) (hr : ∀ b ∈ n.bridges, b.region = reg) {tree : Int} {r : Nat} {c : List Int} (hd : Dist n tree r c) : planF n tree = planS n tree r c := by
  have hs := says_S h hd
  have hs0 : saysN n tree n.bridges.length = sayS n tree r c := by rw [← fin_list h tree]; exact hs
  apply List.ext_getElem?
  intro i
  unfold planS
  by_cases hi : i < n.bridges.length
  · rw [plan_get hi, List.getElem?_map, List.getElem?_range hi, Option.map_some]
    obtain ⟨h1, h2⟩ := dist_fin h hd hi
    obtain ⟨h3, h4⟩ := sF_ids (tree := tree) hi
    have e1 : sF n tree i = ⟨idN n tree r, cz c i, idN n tree i, 0⟩ := Vec.ext4 h1 h2 h3 h4
    have e2 : endsOf n i = isoE (rawE (upL n) i) := by rw [ends_iso h]; unfold upL; rw [region_one h hr]
    have e3 : portsOf n.links (i : Nat) = isoP (rawP n.links (i : Nat)) := ports_iso _ _
    have e4 : pF n tree i = (chooseS (idN n tree i) (offersOf (isoE (rawE (upL n) i)) (sayS n tree r c))).port := by
      unfold pF chN
      rw [hs0, e2]
    congr 1
    unfold placeC
    simp only [Place.mk.injEq]
    refine ⟨e1, e4, e3, ?_⟩
    unfold rolesP
    rw [← e3]
    refine List.map_congr_left fun p _ => ?_
    unfold roleF
    rw [hs, e1, e2, e4]
  · rw [List.getElem?_eq_none (by rw [plan_len]; omega), List.getElem?_eq_none (by simp; omega)]
theorem roleF_S {n : Net} {reg : Region} (h : n.good) (hr : ∀ b ∈ n.bridges, b.region = reg) {tree : Int} {r : Nat} {c : List Int} (hd : Dist n tree r c) {i : Nat} (hi : i < n.bridges.length) {p : Int} (hp : p ∈ portsOf n.links i) : roleF n tree i p = roleX (planS n tree r c) i p := by
  rw [← planF_S h hr hd]
  unfold roleX
  rw [plan_get hi]
  simp only
  cases hx : ixI p (portsOf n.links i) with
  | none => exact absurd hp (ixI_none hx)
  | some k =>
    simp only
    rw [List.getElem?_map, ixI_some hx]; rfl
def opX (ps : List Place) (i : Nat) (p : Int) : Bool := decide (roleX ps i p = 1 ∨ roleX ps i p = 2)
def bothX (ps : List Place) (x : Link) : Bool := opX ps x.a.toNat x.pa && opX ps x.b.toNat x.pb
def dRing (k r : Nat) : List Int := (List.range k).map fun i => 10 * ((min (if i ≤ r then r - i else i - r) (k - (if i ≤ r then r - i else i - r)) : Nat) : Int)
def dCut (k j : Nat) : List Int := (List.range k).map fun i => 10 * ((if i ≤ j then i else k - i : Nat) : Int)
def dearN (k j : Nat) : Net := ⟨(lineN k true).bridges, (lineN k true).links.modify j fun l => { l with cost := 1000 }⟩
theorem ring_dist : ∀ k, k < 13 → 3 ≤ k → distB (lineN k true) 0 0 (dRing k 0) = true := by decide +kernel
theorem dear_dist : ∀ k, k < 13 → 3 ≤ k → ∀ j, j < k → distB (dearN k j) 0 0 (dCut k j) = true := by decide +kernel
theorem ring_open : ∀ k, k < 13 → 3 ≤ k → (lineN k true).links.countP (bothX (planS (lineN k true) 0 0 (dRing k 0))) = k - 1 := by decide +kernel
theorem dear_open : ∀ k, k < 13 → 3 ≤ k → ∀ j, j < k → ((List.range k).all fun m => match (dearN k j).links[m]? with | none => false | some x => bothX (planS (dearN k j) 0 0 (dCut k j)) x != decide (m = j)) = true := by decide +kernel
def blkN (rs : List Int) : Nat := rs.countP fun r => decide (r = 3)
theorem ring_shut : ∀ k, k < 13 → 3 ≤ k → (((planS (lineN k true) 0 0 (dRing k 0)).map fun p => blkN p.roles).sum = 1 ∧ ((List.range k).all fun i => match (planS (lineN k true) 0 0 (dRing k 0))[i]? with | none => false | some p => decide (blkN p.roles = 0 ∨ i = (k + 1) / 2) && decide (p.vec.cost = 10 * ((min i (k - i) : Nat) : Int)) && decide (p.roles.length ≤ 2))) := by decide +kernel
theorem dear_wrong : ∀ k, k < 13 → 3 ≤ k → ∀ j, j < k → (dearN k j).wrong = (0, 0) := by decide +kernel
end Go.Proofs.Ytfmaehhloffabaa
namespace Go.Proofs.Ytfmaehhloffabaa
open Go.RowKit
theorem onA_loop {n : Net} {t : List (List Mind)} {l : List Doing} (h0 : n.wrong.1 = 0) (hl : l.length ≤ 30) : onA n t l = onLoop 0 l n t := by
  unfold onA
  rw [if_neg (by omega), if_neg (by omega)]
theorem playA_loop {n : Net} {trees : Int} {l : List Doing} (h0 : n.wrong.1 = 0) (h1 : 1 ≤ trees) (h2 : trees ≤ 4) (hl : l.length ≤ 30) : playA n trees l = onLoop 0 l n (start0 n trees.toNat) := by
  unfold playA startA
  rw [if_neg (show ¬ n.wrong.1 ≠ 0 by omega), if_neg (show ¬ (trees < 1 ∨ 4 < trees) by omega)]
  exact onA_loop h0 hl
attribute [local irreducible] SStep DW DWin DOps thenQ inBlk loopQ retQ retQG FnF FnG FnI FnM Wk IntKind.wrap IntKind.andI IntKind.orI IntKind.xorI IntKind.andNotI IntKind.shlI IntKind.shrI playA onA
end Go.Proofs.Ytfmaehhloffabaa
namespace Go.Proofs.Ytfmaehhloffabaa
open Go.RowKit
theorem planA_good {n : Net} (h0 : n.wrong.1 = 0) {k : Nat} (hk : k ≤ 15) : planA n k = (planF n k, (0, 0)) := by
  unfold planA
  rw [if_neg (by omega), if_neg (by omega)]
attribute [local irreducible] SStep DW DWin DOps thenQ inBlk loopQ retQ retQG FnF FnG FnI FnM Wk IntKind.wrap IntKind.andI IntKind.orI IntKind.xorI IntKind.andNotI IntKind.shlI IntKind.shrI playA onA planA planF
end Go.Proofs.Ytfmaehhloffabaa
namespace Go.Proofs.Ytfmaehhloffabaa
open Go.RowKit
theorem calm_nonneg {n : Net} {t : List (List Mind)} (ht : goodT n t) {l : List Mind} (hl : l ∈ t) (i j : Nat) : 0 ≤ cAt (mAt l i) j := by
  unfold cAt
  by_cases hi : i < l.length
  · have hm := (ht.m l hl).2 i _ (mAt_get hi)
    by_cases hj : j < (mAt l i).calm.length
    · rw [List.getElem?_eq_getElem hj]; exact (hm.b _ (List.getElem_mem hj)).1
    · rw [List.getElem?_eq_none (by omega)]; exact Int.le_refl _
  · unfold mAt
    rw [show l[i]? = none from List.getElem?_eq_none (by omega)]; exact Int.le_refl _
theorem opensT_at {m : Net} (hg : m.good) {t1 : List (List Mind)} (ht : goodT m t1) {T : Nat} (hT : 90 ≤ T) {k i : Nat} (hk : k < t1.length) (hi : i < m.bridges.length) {p : Int} (hp : p ∈ portsOf m.links i) :
    opensT (ticksN m t1 T) k i p = decide (roleF m k i p = 1 ∨ roleF m k i p = 2) := by
  have hkl : k < (ticksN m t1 T).length := by rw [ticks_len]; exact hk
  have hmem : t1[k] ∈ t1 := List.getElem_mem hk
  have hl1 := (ht.m t1[k] hmem).1
  have hget : (ticksN m t1 T)[k]? = some (tkN m k t1[k] T) := by rw [ticksN_get, List.getElem?_eq_getElem hk]; rfl
  unfold opensT
  rw [if_neg (by omega)]
  simp only [Int.toNat_natCast]
  rw [hget, Option.getD_some, if_neg (by rw [tkN_len]; omega)]
  exact opens_at hg k hl1 (fun i j => calm_nonneg ht hmem i j) hi hT hp
attribute [local irreducible] SStep DW DWin DOps thenQ inBlk loopQ retQ retQG FnF FnG FnI FnM Wk IntKind.wrap IntKind.andI IntKind.orI IntKind.xorI IntKind.andNotI IntKind.shlI IntKind.shrI playA onA ticksN tkN planF planA portsOf roleF opensT
end Go.Proofs.Ytfmaehhloffabaa
