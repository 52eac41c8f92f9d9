/- Law: VecSorted. -/
import Derived.Test.YtkppkgahdoglpaavbDrx
import Derived.Test.YtkppkgahdoglpaavbMrg
import Derived.Test.YtkppkgahdoglpaavcVso
import Derived.Test.YtkppkgahdoglpaavdRf6
namespace Go.Proofs.Ytkppkgahdoglpaa
open Go.RowKit
theorem cmp_pos {a b : Vec} : 0 < a.cmp b ↔ b.cmp a < 0 := by
  rw [Vec.cmp_neg]
  unfold Vec.cmp
  simp only [orI, cmpI]
  repeat' split
  all_goals omega
theorem bestK_min (l : List Vec) : ∀ k, 0 < k → 0 ≤ bestK l k ∧ bestK l k < k ∧ ∀ j, j < k → (vat l (bestK l k).toNat).le (vat l j) = true
  | 0, h => absurd h (Nat.lt_irrefl _)
  | k + 1, _ => by
    rw [bestK]
    by_cases hk : k = 0
    · subst hk
      rw [if_pos (.inl (by rw [bestK]; decide))]
      refine ⟨Int.le_refl _, by omega, fun j hj => ?_⟩
      rw [show j = 0 by omega]
      exact Vec.le_refl _
    · obtain ⟨h1, h2, h3⟩ := bestK_min l k (by omega)
      by_cases hc : bestK l k < 0 ∨ (vat l k).cmp (vat l (bestK l k).toNat) < 0
      · rw [if_pos hc]
        have hc : (vat l k).cmp (vat l (bestK l k).toNat) < 0 := hc.resolve_left (by omega)
        have hle : (vat l k).le (vat l (bestK l k).toNat) = true := by
          rw [Vec.le_iff, ← cmp_pos]; omega
        refine ⟨by omega, by omega, fun j hj => ?_⟩
        rw [Int.toNat_natCast]
        by_cases hjk : j = k
        · subst hjk; exact Vec.le_refl _
        · exact Vec.le_trans hle (h3 j (by omega))
      · rw [if_neg hc]
        have hc2 : ¬ (vat l k).cmp (vat l (bestK l k).toNat) < 0 := fun h => hc (.inr h)
        refine ⟨h1, by omega, fun j hj => ?_⟩
        by_cases hjk : j = k
        · subst hjk; rw [Vec.le_iff]; exact hc2
        · exact h3 j (by omega)
theorem best_first {l s : List Vec} (hp : s.Perm l) (hs : s.Pairwise (fun a b => a.le b = true)) (h0 : 0 < l.length) : 0 ≤ bestK l l.length ∧ bestK l l.length < l.length ∧ ∃ v, l[(bestK l l.length).toNat]? = some v ∧ s[0]? = some v := by
  obtain ⟨h1, h2, h3⟩ := bestK_min l l.length h0
  refine ⟨h1, h2, ?_⟩
  have hlen := hp.length_eq
  have hb : (bestK l l.length).toNat < l.length := by omega
  generalize (bestK l l.length).toNat = b at h3 hb
  have hvb : vat l b = l[b] := vat_eq (List.getElem?_eq_getElem hb)
  refine ⟨l[b], List.getElem?_eq_getElem hb, ?_⟩
  have hs0 : 0 < s.length := by omega
  rw [List.getElem?_eq_getElem hs0]
  congr 1
  have m1 : s[0] ∈ l := hp.mem_iff.1 (List.getElem_mem hs0)
  obtain ⟨j, hj, ej⟩ := List.getElem_of_mem m1
  have l1 := h3 j hj
  have hvj : vat l j = s[0] := vat_eq (by rw [List.getElem?_eq_getElem hj, ej])
  rw [hvb, hvj] at l1
  have m2 : l[b] ∈ s := hp.mem_iff.2 (List.getElem_mem hb)
  obtain ⟨i, hi, ei⟩ := List.getElem_of_mem m2
  have l2 : s[0].le l[b] = true := by
    rw [← ei]
    by_cases h : i = 0
    · subst h; exact Vec.le_refl _
    · exact List.pairwise_iff_getElem.1 hs 0 i hs0 hi (by omega)
  exact Vec.le_anti l2 l1
attribute [local irreducible] SStep DW DWS DOps thenQ inBlk loopQ loopQS endI retQ retQG FnF FnG FnI Wk IntKind.wrap IntKind.andI IntKind.orI IntKind.xorI IntKind.andNotI IntKind.shlI IntKind.shrI Vec.cmp sortL updK
theorem alive5 : FnF Try.prog 25 [] (.bool true) := by
  refine fnF_of Try.func25 rfl rfl rfl ?_
  simp only [envOf]
  repeat' (first
    | (apply Stp.go; case a => constructor)
    | refine blk_hit rfl ?_ | refine blk_miss rfl ?_ | refine dnilD (by kernel_rfl) ?_ | refine DW_cond_t rfl ?_ | refine DW_cond_f rfl ?_
    | refine dpOff rfl rfl ?_
    | ((first | apply dX rfl | apply dXon rfl rfl | apply dpMay rfl rfl (by intro h; first | trivial | exact ⟨h, trivial⟩ | exact ⟨h, h, trivial⟩ | exact ⟨h, h, h, trivial⟩)); (case h => ((try intro hg); first | exact S_call (vec_Choose 9 [⟨4, 3, 1, ⟨5, 2, 0, 0⟩⟩]) rfl | exact S_call (vec_Compare ⟨1, 0, 0, 0⟩ ⟨2, 0, 0, 0⟩) rfl | exact S_al rfl | exact S_bx rfl rfl | exact S_store rfl rfl rfl rfl rfl rfl | (apply Pu.ok; repeat' (first | rfl | exact .inK (by simp only [InK]; omega) | exact .inK (by simp only [InK]; simp at hg; omega) | exact .wr | constructor | decide | omega)))); (try case hp => constructor))
    | refine dpickAnd rfl rfl rfl rfl rfl ?_ | refine dpickOr rfl rfl rfl rfl rfl ?_
    | fail)
  exact ret1 rfl (.inl rfl) (by with_unfolding_all rfl)
set_option maxRecDepth 10000 in
set_option maxHeartbeats 8000000 in
theorem law_VecSorted (l : List Vec) (hl : l.length ≤ 1099511627776) : FnF Try.prog 11 [.slice (l.map Vec.cells)] (.bool true) := by
  refine fnF_of Try.func11 rfl rfl rfl ?_
  simp only [envOf]
  have hml : (l.map Vec.cells).length = l.length := by simp
  have hso := vec_Sorted l hl
  have hbe := vec_Best l
  have hsl := sortL_len l
  have hsp := sortL_pw l
  have hpm := sortL_perm l
  have hbf := fun h0 => best_first hpm hsp h0
  have hb0 : l.length = 0 → bestK l l.length = -1 := fun h => by rw [h]; with_unfolding_all rfl
  generalize bestK l l.length = bk at hbe hbf hb0
  generalize sortL l = s at hso hsl hsp hpm hbf
  have hms : (s.map Vec.cells).length = l.length := by simp [hsl]
  repeat' (first
    | (apply Stp.go; case a => constructor)
    | refine blk_hit rfl ?_ | refine blk_miss rfl ?_ | refine dnilD (by kernel_rfl) ?_ | refine DW_cond_t rfl ?_ | refine DW_cond_f rfl ?_
    | refine DW_tD rfl (by omega) ?_ | refine DW_fD rfl (by omega) ?_
    | refine dpOff rfl rfl ?_
    | ((first | apply dX rfl | apply dXon rfl rfl | apply dpMay rfl rfl (by intro h; first | trivial | exact ⟨h, trivial⟩ | exact ⟨h, h, trivial⟩ | exact ⟨h, h, h, trivial⟩)); (case h => ((try intro hg); first | exact S_call alive5 rfl | exact S_call hso rfl | exact S_mkMapK (kt := 48) (et := 3) Vec.cells (V.int .i64) 18 rfl | exact S_cT rfl rfl (by constructor) (by omega) | exact S_cF rfl rfl (by constructor) (by omega) | exact S_al rfl | exact S_bx rfl rfl | exact S_store rfl rfl rfl rfl rfl rfl | (apply Pu.ok; repeat' (first | rfl | exact .inK (by simp only [InK]; omega) | exact .inK (by simp only [InK]; simp at hg; omega) | exact .wr | constructor | decide | omega)))); (try case hp => constructor))
    | refine dpickAnd rfl rfl rfl rfl rfl ?_ | refine dpickOr rfl rfl rfl rfl rfl ?_
    | fail)
  refine DW_loop (fun q : Nat × List (Vec × Int) => ⟨[(0, .dat false (.slice (l.map Vec.cells))), (3, .dat true (.slice (s.map Vec.cells))), (4, .mp 18), (20, .dat true (.int .i64 (s.map Vec.cells).length)), (21, .dat true (.int .i64 q.1))], [(18, .mapb 48 3 (mapK Vec.cells (V.int .i64) q.2))], 91⟩)
    (fun q => q.1 ≤ l.length ∧ (q.2.map (·.1)).Nodup ∧ ∀ v, (lookK q.2 v).getD 0 = cntV v (s.take q.1) - cntV v (l.take q.1)) (fun q => l.length - q.1) (0, []) ⟨Nat.zero_le _, by simp, fun v => by simp [lookK, cntV]⟩
    (Wk_g some rfl rfl (by (repeat' (first | exact trivial | rfl | exact listLe_map _ | exact ⟨_, rfl, .inl rfl⟩ | exact ⟨_, rfl, .inr (.inl rfl)⟩ | exact ⟨_, rfl, .inr (.inr rfl)⟩ | refine ⟨_, _, rfl, rfl, ?_⟩ | exact ⟨_, rfl, rfl⟩ | exact ⟨_, _, _, _, rfl, rfl, rfl⟩ | exact ⟨_, rfl⟩ | exact ⟨_, _, rfl⟩ | refine ⟨_, (rfl : D.fnd _ _ = D.fnd _ _), ?_⟩ | apply And.intro)))) (fun q hR => ?_)
  obtain ⟨k, es⟩ := q
  obtain ⟨hk, hnd, hval⟩ := hR
  simp only at hk hnd hval
  dsimp only
  by_cases hlt : k < l.length
  · have hx : s[(k : Int).toNat]? = some (s[k]'(by omega)) := by simp [show k < s.length by omega]
    have hx' : s[k]? = some (s[k]'(by omega)) := by simp [show k < s.length by omega]
    have hy : l[(k : Int).toNat]? = some l[k] := by simp [hlt]
    have hy' : l[k]? = some l[k] := by simp [hlt]
    obtain ⟨p, hx0, hcmp⟩ : ∃ p, s[((k : Int) - 1).toNat]? = some p ∧ (0 < k → ¬ 0 < p.cmp (s[k]'(by omega))) := by
      by_cases h0 : 0 < k
      · refine ⟨s[k - 1]'(by omega), ?_, fun _ h => ?_⟩
        · rw [show ((k : Int) - 1).toNat = k - 1 by omega]; simp [show k - 1 < s.length by omega]
        · have := List.pairwise_iff_getElem.1 hsp (k - 1) k (by omega) (by omega) (by omega)
          rw [Vec.le_iff, ← cmp_pos] at this
          exact this h
      · exact ⟨s[0]'(by omega), by rw [show ((k : Int) - 1).toNat = 0 by omega]; simp [show 0 < s.length by omega], fun h => absurd h h0⟩
    have hnb : ∀ v, -(k : Int) ≤ (lookK es v).getD 0 ∧ (lookK es v).getD 0 ≤ k := fun v => by
      have h1 := cnt_le v s k
      have h2 := cnt_le v l k
      rw [hval]; omega
    generalize s[k]'(by omega) = a at hx hx' hcmp
    generalize l[k] = b at hy hy'
    have hb1 := hnb a
    have hvc := vec_Compare p a
    have hmem1 := look_cases a hnd
    obtain ⟨x1, hx1⟩ : ∃ x1, x1 = (lookK es a).getD 0 + 1 := ⟨_, rfl⟩
    have hn1 := nodup_upd a x1 hnd
    have hv1 : ∀ v, lookK (updK es a x1) v = if v = a then some x1 else lookK es v := fun v => lookK_upd a x1 v es
    have hmem2 := look_cases b hn1
    obtain ⟨x2, hx2⟩ : ∃ x2, x2 = (lookK (updK es a x1) b).getD 0 - 1 := ⟨_, rfl⟩
    have hn2 := nodup_upd b x2 hn1
    have hb2 : -((k : Int) + 1) ≤ (lookK (updK es a x1) b).getD 0 ∧ (lookK (updK es a x1) b).getD 0 ≤ k + 1 := by
      rw [hv1]
      have := hnb b
      split
      · simp only [Option.getD_some]; omega
      · omega
    have hfin : ∀ v, (lookK (updK (updK es a x1) b x2) v).getD 0 = cntV v (s.take (k + 1)) - cntV v (l.take (k + 1)) := fun v => by
      rw [lookK_upd, cnt_take hx', cnt_take hy', hv1]
      have h1 := hval v
      by_cases e1 : v = b
      · rw [if_pos e1, if_pos e1, Option.getD_some, hx2, hv1, ← e1]
        by_cases e2 : v = a
        · rw [if_pos e2, if_pos e2, Option.getD_some, hx1, ← e2]; omega
        · rw [if_neg e2, if_neg e2]; omega
      · rw [if_neg e1, if_neg e1]
        by_cases e2 : v = a
        · rw [if_pos e2, if_pos e2, Option.getD_some, hx1, ← e2]; omega
        · rw [if_neg e2, if_neg e2]; omega
    obtain ⟨es1, hes1⟩ : ∃ es1, es1 = updK es a x1 := ⟨_, rfl⟩
    rw [← hes1] at hmem2 hx2 hn2 hb2 hfin
    have c1 : ∀ {r : List (Vec × Int)}, r = updK es a x1 → r = es1 := fun h => h.trans hes1.symm
    rw [← hes1] at hn1 hv1
    rcases hmem1 with ⟨m1, m2⟩ | ⟨j1, w1, m1, m2, m3, m4⟩
    · have hj1 : (es ++ [(a, (0 : Int))])[es.length]? = some (a, 0) := by simp
      have hE1 : (es ++ [(a, (0 : Int))]).set es.length (a, (lookK es a).getD 0 + 1) = es1 := by rw [hes1, hx1]; exact m2 _ 0
      rcases hmem2 with ⟨q1, q2⟩ | ⟨j2, w2, q1, q2, q3, q4⟩
      · have hj2 : (es1 ++ [(b, (0 : Int))])[es1.length]? = some (b, 0) := by simp
        have hE2 : (es1 ++ [(b, (0 : Int))]).set es1.length (b, (lookK es1 b).getD 0 - 1) = updK es1 b x2 := by rw [hx2]; exact q2 _ 0
        by_cases h0 : 0 < k
        · have hcmp := hcmp h0
          repeat' (first
    | refine DW_drawX (id := 10) [_, _, _, _, _, _, _, _] [_, _] 5 7 18 rfl ?_
    | refine dnilX (alt_look (a := a) (es := es ++ [(a, 0)]) (f := Vec.cells) (h := V.int .i64) (b0 := 0) rfl Try.underlying66 rfl rfl rfl rfl rfl (look_new m1)) ?_
    | refine dnilY (by kernel_rfl) ?_
    | refine DW_drawX (id := 11) [_, _, _, _, _, _, _, _] [_, _] 5 7 18 rfl ?_
    | refine dnilX (alt_look (a := b) (es := es1 ++ [(b, 0)]) (f := Vec.cells) (h := V.int .i64) (b0 := 0) rfl Try.underlying66 rfl rfl rfl rfl rfl (look_new q1)) ?_
    | refine dnilY (by kernel_rfl) ?_
    | (apply Stp.go; case a => constructor)
    | refine blk_hit rfl ?_ | refine blk_miss rfl ?_ | refine dnilD (by kernel_rfl) ?_ | refine DW_cond_t rfl ?_ | refine DW_cond_f rfl ?_
    | refine DW_tD rfl (by omega) ?_ | refine DW_fD rfl (by omega) ?_
    | refine dpOff rfl rfl ?_
    | ((first | apply dX rfl | apply dXon rfl rfl | apply dpMay rfl rfl (by intro h; first | trivial | exact ⟨h, trivial⟩ | exact ⟨h, h, trivial⟩ | exact ⟨h, h, h, trivial⟩)); (case h => ((try intro hg); first | exact S_ixM rfl rfl (by omega) hx | exact S_ixM rfl rfl (by omega) hy | exact S_ixM rfl rfl (by omega) hx0 | exact S_lookupK (f := Vec.cells) (h := V.int .i64) (b0 := 0) Try.underlying66 rfl rfl rfl rfl | exact S_entN (f := Vec.cells) (h := V.int .i64) (b0 := 0) Try.underlying66 rfl (.int _ _) rfl rfl rfl m1 | exact S_entS2 (f := Vec.cells) (h := V.int .i64) rfl rfl rfl rfl (.int _ _) hj1 hE1 | exact S_entN (f := Vec.cells) (h := V.int .i64) (b0 := 0) Try.underlying66 rfl (.int _ _) rfl rfl rfl q1 | exact S_entS2 (f := Vec.cells) (h := V.int .i64) rfl rfl rfl rfl (.int _ _) hj2 hE2 | exact S_call hvc rfl | exact S_cT rfl rfl (by constructor) (by omega) | exact S_cF rfl rfl (by constructor) (by omega) | exact S_al rfl | exact S_bx rfl rfl | exact S_store rfl rfl rfl rfl rfl rfl | (apply Pu.ok; repeat' (first | rfl | exact .inK (by simp only [InK]; omega) | exact .inK (by simp only [InK]; simp at hg; omega) | exact .wr | constructor | decide | omega)))); (try case hp => constructor))
    | refine dpickAnd rfl rfl rfl rfl rfl ?_ | refine dpickOr rfl rfl rfl rfl rfl ?_
    | fail)
          exact loop_again (k + 1, updK es1 b x2) ⟨hlt, hn2, hfin⟩ (by simp only; omega) (Wk_g some rfl rfl (by (repeat' (first | exact trivial | rfl | exact listLe_map _ | exact ⟨_, rfl, .inl rfl⟩ | exact ⟨_, rfl, .inr (.inl rfl)⟩ | exact ⟨_, rfl, .inr (.inr rfl)⟩ | refine ⟨_, _, rfl, rfl, ?_⟩ | exact ⟨_, rfl, rfl⟩ | exact ⟨_, _, _, _, rfl, rfl, rfl⟩ | exact ⟨_, rfl⟩ | exact ⟨_, _, rfl⟩ | refine ⟨_, (rfl : D.fnd _ _ = D.fnd _ _), ?_⟩ | apply And.intro))))
        · repeat' (first
    | refine DW_drawX (id := 10) [_, _, _, _, _, _, _, _] [_, _] 5 7 18 rfl ?_
    | refine dnilX (alt_look (a := a) (es := es ++ [(a, 0)]) (f := Vec.cells) (h := V.int .i64) (b0 := 0) rfl Try.underlying66 rfl rfl rfl rfl rfl (look_new m1)) ?_
    | refine dnilY (by kernel_rfl) ?_
    | refine DW_drawX (id := 11) [_, _, _, _, _, _, _, _] [_, _] 5 7 18 rfl ?_
    | refine dnilX (alt_look (a := b) (es := es1 ++ [(b, 0)]) (f := Vec.cells) (h := V.int .i64) (b0 := 0) rfl Try.underlying66 rfl rfl rfl rfl rfl (look_new q1)) ?_
    | refine dnilY (by kernel_rfl) ?_
    | (apply Stp.go; case a => constructor)
    | refine blk_hit rfl ?_ | refine blk_miss rfl ?_ | refine dnilD (by kernel_rfl) ?_ | refine DW_cond_t rfl ?_ | refine DW_cond_f rfl ?_
    | refine DW_tD rfl (by omega) ?_ | refine DW_fD rfl (by omega) ?_
    | refine dpOff rfl rfl ?_
    | ((first | apply dX rfl | apply dXon rfl rfl | apply dpMay rfl rfl (by intro h; first | trivial | exact ⟨h, trivial⟩ | exact ⟨h, h, trivial⟩ | exact ⟨h, h, h, trivial⟩)); (case h => ((try intro hg); first | exact S_ixM rfl rfl (by omega) hx | exact S_ixM rfl rfl (by omega) hy | exact S_ixM rfl rfl (by omega) hx0 | exact S_lookupK (f := Vec.cells) (h := V.int .i64) (b0 := 0) Try.underlying66 rfl rfl rfl rfl | exact S_entN (f := Vec.cells) (h := V.int .i64) (b0 := 0) Try.underlying66 rfl (.int _ _) rfl rfl rfl m1 | exact S_entS2 (f := Vec.cells) (h := V.int .i64) rfl rfl rfl rfl (.int _ _) hj1 hE1 | exact S_entN (f := Vec.cells) (h := V.int .i64) (b0 := 0) Try.underlying66 rfl (.int _ _) rfl rfl rfl q1 | exact S_entS2 (f := Vec.cells) (h := V.int .i64) rfl rfl rfl rfl (.int _ _) hj2 hE2 | exact S_call hvc rfl | exact S_cT rfl rfl (by constructor) (by omega) | exact S_cF rfl rfl (by constructor) (by omega) | exact S_al rfl | exact S_bx rfl rfl | exact S_store rfl rfl rfl rfl rfl rfl | (apply Pu.ok; repeat' (first | rfl | exact .inK (by simp only [InK]; omega) | exact .inK (by simp only [InK]; simp at hg; omega) | exact .wr | constructor | decide | omega)))); (try case hp => constructor))
    | refine dpickAnd rfl rfl rfl rfl rfl ?_ | refine dpickOr rfl rfl rfl rfl rfl ?_
    | fail)
          exact loop_again (k + 1, updK es1 b x2) ⟨hlt, hn2, hfin⟩ (by simp only; omega) (Wk_g some rfl rfl (by (repeat' (first | exact trivial | rfl | exact listLe_map _ | exact ⟨_, rfl, .inl rfl⟩ | exact ⟨_, rfl, .inr (.inl rfl)⟩ | exact ⟨_, rfl, .inr (.inr rfl)⟩ | refine ⟨_, _, rfl, rfl, ?_⟩ | exact ⟨_, rfl, rfl⟩ | exact ⟨_, _, _, _, rfl, rfl, rfl⟩ | exact ⟨_, rfl⟩ | exact ⟨_, _, rfl⟩ | refine ⟨_, (rfl : D.fnd _ _ = D.fnd _ _), ?_⟩ | apply And.intro))))
      · have hE2 : es1.set j2 (b, (lookK es1 b).getD 0 - 1) = updK es1 b x2 := by rw [hx2]; exact q4 _
        by_cases h0 : 0 < k
        · have hcmp := hcmp h0
          repeat' (first
    | refine DW_drawX (id := 10) [_, _, _, _, _, _, _, _] [_, _] 5 7 18 rfl ?_
    | refine dnilX (alt_look (a := a) (es := es ++ [(a, 0)]) (f := Vec.cells) (h := V.int .i64) (b0 := 0) rfl Try.underlying66 rfl rfl rfl rfl rfl (look_new m1)) ?_
    | refine dnilY (by kernel_rfl) ?_
    | (apply Stp.go; case a => constructor)
    | refine blk_hit rfl ?_ | refine blk_miss rfl ?_ | refine dnilD (by kernel_rfl) ?_ | refine DW_cond_t rfl ?_ | refine DW_cond_f rfl ?_
    | refine DW_tD rfl (by omega) ?_ | refine DW_fD rfl (by omega) ?_
    | refine dpOff rfl rfl ?_
    | ((first | apply dX rfl | apply dXon rfl rfl | apply dpMay rfl rfl (by intro h; first | trivial | exact ⟨h, trivial⟩ | exact ⟨h, h, trivial⟩ | exact ⟨h, h, h, trivial⟩)); (case h => ((try intro hg); first | exact S_ixM rfl rfl (by omega) hx | exact S_ixM rfl rfl (by omega) hy | exact S_ixM rfl rfl (by omega) hx0 | exact S_lookupK (f := Vec.cells) (h := V.int .i64) (b0 := 0) Try.underlying66 rfl rfl rfl rfl | exact S_entN (f := Vec.cells) (h := V.int .i64) (b0 := 0) Try.underlying66 rfl (.int _ _) rfl rfl rfl m1 | exact S_entS2 (f := Vec.cells) (h := V.int .i64) rfl rfl rfl rfl (.int _ _) hj1 hE1 | exact S_entK (f := Vec.cells) (h := V.int .i64) Try.underlying66 (vec_bits _) rfl rfl rfl q2 q3 | exact S_entS2 (f := Vec.cells) (h := V.int .i64) rfl rfl rfl rfl (.int _ _) q2 hE2 | exact S_call hvc rfl | exact S_cT rfl rfl (by constructor) (by omega) | exact S_cF rfl rfl (by constructor) (by omega) | exact S_al rfl | exact S_bx rfl rfl | exact S_store rfl rfl rfl rfl rfl rfl | (apply Pu.ok; repeat' (first | rfl | exact .inK (by simp only [InK]; omega) | exact .inK (by simp only [InK]; simp at hg; omega) | exact .wr | constructor | decide | omega)))); (try case hp => constructor))
    | refine dpickAnd rfl rfl rfl rfl rfl ?_ | refine dpickOr rfl rfl rfl rfl rfl ?_
    | fail)
          exact loop_again (k + 1, updK es1 b x2) ⟨hlt, hn2, hfin⟩ (by simp only; omega) (Wk_g some rfl rfl (by (repeat' (first | exact trivial | rfl | exact listLe_map _ | exact ⟨_, rfl, .inl rfl⟩ | exact ⟨_, rfl, .inr (.inl rfl)⟩ | exact ⟨_, rfl, .inr (.inr rfl)⟩ | refine ⟨_, _, rfl, rfl, ?_⟩ | exact ⟨_, rfl, rfl⟩ | exact ⟨_, _, _, _, rfl, rfl, rfl⟩ | exact ⟨_, rfl⟩ | exact ⟨_, _, rfl⟩ | refine ⟨_, (rfl : D.fnd _ _ = D.fnd _ _), ?_⟩ | apply And.intro))))
        · repeat' (first
    | refine DW_drawX (id := 10) [_, _, _, _, _, _, _, _] [_, _] 5 7 18 rfl ?_
    | refine dnilX (alt_look (a := a) (es := es ++ [(a, 0)]) (f := Vec.cells) (h := V.int .i64) (b0 := 0) rfl Try.underlying66 rfl rfl rfl rfl rfl (look_new m1)) ?_
    | refine dnilY (by kernel_rfl) ?_
    | (apply Stp.go; case a => constructor)
    | refine blk_hit rfl ?_ | refine blk_miss rfl ?_ | refine dnilD (by kernel_rfl) ?_ | refine DW_cond_t rfl ?_ | refine DW_cond_f rfl ?_
    | refine DW_tD rfl (by omega) ?_ | refine DW_fD rfl (by omega) ?_
    | refine dpOff rfl rfl ?_
    | ((first | apply dX rfl | apply dXon rfl rfl | apply dpMay rfl rfl (by intro h; first | trivial | exact ⟨h, trivial⟩ | exact ⟨h, h, trivial⟩ | exact ⟨h, h, h, trivial⟩)); (case h => ((try intro hg); first | exact S_ixM rfl rfl (by omega) hx | exact S_ixM rfl rfl (by omega) hy | exact S_ixM rfl rfl (by omega) hx0 | exact S_lookupK (f := Vec.cells) (h := V.int .i64) (b0 := 0) Try.underlying66 rfl rfl rfl rfl | exact S_entN (f := Vec.cells) (h := V.int .i64) (b0 := 0) Try.underlying66 rfl (.int _ _) rfl rfl rfl m1 | exact S_entS2 (f := Vec.cells) (h := V.int .i64) rfl rfl rfl rfl (.int _ _) hj1 hE1 | exact S_entK (f := Vec.cells) (h := V.int .i64) Try.underlying66 (vec_bits _) rfl rfl rfl q2 q3 | exact S_entS2 (f := Vec.cells) (h := V.int .i64) rfl rfl rfl rfl (.int _ _) q2 hE2 | exact S_call hvc rfl | exact S_cT rfl rfl (by constructor) (by omega) | exact S_cF rfl rfl (by constructor) (by omega) | exact S_al rfl | exact S_bx rfl rfl | exact S_store rfl rfl rfl rfl rfl rfl | (apply Pu.ok; repeat' (first | rfl | exact .inK (by simp only [InK]; omega) | exact .inK (by simp only [InK]; simp at hg; omega) | exact .wr | constructor | decide | omega)))); (try case hp => constructor))
    | refine dpickAnd rfl rfl rfl rfl rfl ?_ | refine dpickOr rfl rfl rfl rfl rfl ?_
    | fail)
          exact loop_again (k + 1, updK es1 b x2) ⟨hlt, hn2, hfin⟩ (by simp only; omega) (Wk_g some rfl rfl (by (repeat' (first | exact trivial | rfl | exact listLe_map _ | exact ⟨_, rfl, .inl rfl⟩ | exact ⟨_, rfl, .inr (.inl rfl)⟩ | exact ⟨_, rfl, .inr (.inr rfl)⟩ | refine ⟨_, _, rfl, rfl, ?_⟩ | exact ⟨_, rfl, rfl⟩ | exact ⟨_, _, _, _, rfl, rfl, rfl⟩ | exact ⟨_, rfl⟩ | exact ⟨_, _, rfl⟩ | refine ⟨_, (rfl : D.fnd _ _ = D.fnd _ _), ?_⟩ | apply And.intro))))
    · have hE1 : es.set j1 (a, (lookK es a).getD 0 + 1) = es1 := by rw [hes1, hx1]; exact m4 _
      rcases hmem2 with ⟨q1, q2⟩ | ⟨j2, w2, q1, q2, q3, q4⟩
      · have hj2 : (es1 ++ [(b, (0 : Int))])[es1.length]? = some (b, 0) := by simp
        have hE2 : (es1 ++ [(b, (0 : Int))]).set es1.length (b, (lookK es1 b).getD 0 - 1) = updK es1 b x2 := by rw [hx2]; exact q2 _ 0
        by_cases h0 : 0 < k
        · have hcmp := hcmp h0
          repeat' (first
    | refine DW_drawX (id := 11) [_, _, _, _, _, _, _, _] [_, _] 5 7 18 rfl ?_
    | refine dnilX (alt_look (a := b) (es := es1 ++ [(b, 0)]) (f := Vec.cells) (h := V.int .i64) (b0 := 0) rfl Try.underlying66 rfl rfl rfl rfl rfl (look_new q1)) ?_
    | refine dnilY (by kernel_rfl) ?_
    | (apply Stp.go; case a => constructor)
    | refine blk_hit rfl ?_ | refine blk_miss rfl ?_ | refine dnilD (by kernel_rfl) ?_ | refine DW_cond_t rfl ?_ | refine DW_cond_f rfl ?_
    | refine DW_tD rfl (by omega) ?_ | refine DW_fD rfl (by omega) ?_
    | refine dpOff rfl rfl ?_
    | ((first | apply dX rfl | apply dXon rfl rfl | apply dpMay rfl rfl (by intro h; first | trivial | exact ⟨h, trivial⟩ | exact ⟨h, h, trivial⟩ | exact ⟨h, h, h, trivial⟩)); (case h => ((try intro hg); first | exact S_ixM rfl rfl (by omega) hx | exact S_ixM rfl rfl (by omega) hy | exact S_ixM rfl rfl (by omega) hx0 | exact S_lookupK (f := Vec.cells) (h := V.int .i64) (b0 := 0) Try.underlying66 rfl rfl rfl rfl | exact S_entK (f := Vec.cells) (h := V.int .i64) Try.underlying66 (vec_bits _) rfl rfl rfl m2 m3 | exact S_entS2 (f := Vec.cells) (h := V.int .i64) rfl rfl rfl rfl (.int _ _) m2 hE1 | exact S_entN (f := Vec.cells) (h := V.int .i64) (b0 := 0) Try.underlying66 rfl (.int _ _) rfl rfl rfl q1 | exact S_entS2 (f := Vec.cells) (h := V.int .i64) rfl rfl rfl rfl (.int _ _) hj2 hE2 | exact S_call hvc rfl | exact S_cT rfl rfl (by constructor) (by omega) | exact S_cF rfl rfl (by constructor) (by omega) | exact S_al rfl | exact S_bx rfl rfl | exact S_store rfl rfl rfl rfl rfl rfl | (apply Pu.ok; repeat' (first | rfl | exact .inK (by simp only [InK]; omega) | exact .inK (by simp only [InK]; simp at hg; omega) | exact .wr | constructor | decide | omega)))); (try case hp => constructor))
    | refine dpickAnd rfl rfl rfl rfl rfl ?_ | refine dpickOr rfl rfl rfl rfl rfl ?_
    | fail)
          exact loop_again (k + 1, updK es1 b x2) ⟨hlt, hn2, hfin⟩ (by simp only; omega) (Wk_g some rfl rfl (by (repeat' (first | exact trivial | rfl | exact listLe_map _ | exact ⟨_, rfl, .inl rfl⟩ | exact ⟨_, rfl, .inr (.inl rfl)⟩ | exact ⟨_, rfl, .inr (.inr rfl)⟩ | refine ⟨_, _, rfl, rfl, ?_⟩ | exact ⟨_, rfl, rfl⟩ | exact ⟨_, _, _, _, rfl, rfl, rfl⟩ | exact ⟨_, rfl⟩ | exact ⟨_, _, rfl⟩ | refine ⟨_, (rfl : D.fnd _ _ = D.fnd _ _), ?_⟩ | apply And.intro))))
        · repeat' (first
    | refine DW_drawX (id := 11) [_, _, _, _, _, _, _, _] [_, _] 5 7 18 rfl ?_
    | refine dnilX (alt_look (a := b) (es := es1 ++ [(b, 0)]) (f := Vec.cells) (h := V.int .i64) (b0 := 0) rfl Try.underlying66 rfl rfl rfl rfl rfl (look_new q1)) ?_
    | refine dnilY (by kernel_rfl) ?_
    | (apply Stp.go; case a => constructor)
    | refine blk_hit rfl ?_ | refine blk_miss rfl ?_ | refine dnilD (by kernel_rfl) ?_ | refine DW_cond_t rfl ?_ | refine DW_cond_f rfl ?_
    | refine DW_tD rfl (by omega) ?_ | refine DW_fD rfl (by omega) ?_
    | refine dpOff rfl rfl ?_
    | ((first | apply dX rfl | apply dXon rfl rfl | apply dpMay rfl rfl (by intro h; first | trivial | exact ⟨h, trivial⟩ | exact ⟨h, h, trivial⟩ | exact ⟨h, h, h, trivial⟩)); (case h => ((try intro hg); first | exact S_ixM rfl rfl (by omega) hx | exact S_ixM rfl rfl (by omega) hy | exact S_ixM rfl rfl (by omega) hx0 | exact S_lookupK (f := Vec.cells) (h := V.int .i64) (b0 := 0) Try.underlying66 rfl rfl rfl rfl | exact S_entK (f := Vec.cells) (h := V.int .i64) Try.underlying66 (vec_bits _) rfl rfl rfl m2 m3 | exact S_entS2 (f := Vec.cells) (h := V.int .i64) rfl rfl rfl rfl (.int _ _) m2 hE1 | exact S_entN (f := Vec.cells) (h := V.int .i64) (b0 := 0) Try.underlying66 rfl (.int _ _) rfl rfl rfl q1 | exact S_entS2 (f := Vec.cells) (h := V.int .i64) rfl rfl rfl rfl (.int _ _) hj2 hE2 | exact S_call hvc rfl | exact S_cT rfl rfl (by constructor) (by omega) | exact S_cF rfl rfl (by constructor) (by omega) | exact S_al rfl | exact S_bx rfl rfl | exact S_store rfl rfl rfl rfl rfl rfl | (apply Pu.ok; repeat' (first | rfl | exact .inK (by simp only [InK]; omega) | exact .inK (by simp only [InK]; simp at hg; omega) | exact .wr | constructor | decide | omega)))); (try case hp => constructor))
    | refine dpickAnd rfl rfl rfl rfl rfl ?_ | refine dpickOr rfl rfl rfl rfl rfl ?_
    | fail)
          exact loop_again (k + 1, updK es1 b x2) ⟨hlt, hn2, hfin⟩ (by simp only; omega) (Wk_g some rfl rfl (by (repeat' (first | exact trivial | rfl | exact listLe_map _ | exact ⟨_, rfl, .inl rfl⟩ | exact ⟨_, rfl, .inr (.inl rfl)⟩ | exact ⟨_, rfl, .inr (.inr rfl)⟩ | refine ⟨_, _, rfl, rfl, ?_⟩ | exact ⟨_, rfl, rfl⟩ | exact ⟨_, _, _, _, rfl, rfl, rfl⟩ | exact ⟨_, rfl⟩ | exact ⟨_, _, rfl⟩ | refine ⟨_, (rfl : D.fnd _ _ = D.fnd _ _), ?_⟩ | apply And.intro))))
      · have hE2 : es1.set j2 (b, (lookK es1 b).getD 0 - 1) = updK es1 b x2 := by rw [hx2]; exact q4 _
        by_cases h0 : 0 < k
        · have hcmp := hcmp h0
          repeat' (first
    | (apply Stp.go; case a => constructor)
    | refine blk_hit rfl ?_ | refine blk_miss rfl ?_ | refine dnilD (by kernel_rfl) ?_ | refine DW_cond_t rfl ?_ | refine DW_cond_f rfl ?_
    | refine DW_tD rfl (by omega) ?_ | refine DW_fD rfl (by omega) ?_
    | refine dpOff rfl rfl ?_
    | ((first | apply dX rfl | apply dXon rfl rfl | apply dpMay rfl rfl (by intro h; first | trivial | exact ⟨h, trivial⟩ | exact ⟨h, h, trivial⟩ | exact ⟨h, h, h, trivial⟩)); (case h => ((try intro hg); first | exact S_ixM rfl rfl (by omega) hx | exact S_ixM rfl rfl (by omega) hy | exact S_ixM rfl rfl (by omega) hx0 | exact S_lookupK (f := Vec.cells) (h := V.int .i64) (b0 := 0) Try.underlying66 rfl rfl rfl rfl | exact S_entK (f := Vec.cells) (h := V.int .i64) Try.underlying66 (vec_bits _) rfl rfl rfl m2 m3 | exact S_entS2 (f := Vec.cells) (h := V.int .i64) rfl rfl rfl rfl (.int _ _) m2 hE1 | exact S_entK (f := Vec.cells) (h := V.int .i64) Try.underlying66 (vec_bits _) rfl rfl rfl q2 q3 | exact S_entS2 (f := Vec.cells) (h := V.int .i64) rfl rfl rfl rfl (.int _ _) q2 hE2 | exact S_call hvc rfl | exact S_cT rfl rfl (by constructor) (by omega) | exact S_cF rfl rfl (by constructor) (by omega) | exact S_al rfl | exact S_bx rfl rfl | exact S_store rfl rfl rfl rfl rfl rfl | (apply Pu.ok; repeat' (first | rfl | exact .inK (by simp only [InK]; omega) | exact .inK (by simp only [InK]; simp at hg; omega) | exact .wr | constructor | decide | omega)))); (try case hp => constructor))
    | refine dpickAnd rfl rfl rfl rfl rfl ?_ | refine dpickOr rfl rfl rfl rfl rfl ?_
    | fail)
          exact loop_again (k + 1, updK es1 b x2) ⟨hlt, hn2, hfin⟩ (by simp only; omega) (Wk_g some rfl rfl (by (repeat' (first | exact trivial | rfl | exact listLe_map _ | exact ⟨_, rfl, .inl rfl⟩ | exact ⟨_, rfl, .inr (.inl rfl)⟩ | exact ⟨_, rfl, .inr (.inr rfl)⟩ | refine ⟨_, _, rfl, rfl, ?_⟩ | exact ⟨_, rfl, rfl⟩ | exact ⟨_, _, _, _, rfl, rfl, rfl⟩ | exact ⟨_, rfl⟩ | exact ⟨_, _, rfl⟩ | refine ⟨_, (rfl : D.fnd _ _ = D.fnd _ _), ?_⟩ | apply And.intro))))
        · repeat' (first
    | (apply Stp.go; case a => constructor)
    | refine blk_hit rfl ?_ | refine blk_miss rfl ?_ | refine dnilD (by kernel_rfl) ?_ | refine DW_cond_t rfl ?_ | refine DW_cond_f rfl ?_
    | refine DW_tD rfl (by omega) ?_ | refine DW_fD rfl (by omega) ?_
    | refine dpOff rfl rfl ?_
    | ((first | apply dX rfl | apply dXon rfl rfl | apply dpMay rfl rfl (by intro h; first | trivial | exact ⟨h, trivial⟩ | exact ⟨h, h, trivial⟩ | exact ⟨h, h, h, trivial⟩)); (case h => ((try intro hg); first | exact S_ixM rfl rfl (by omega) hx | exact S_ixM rfl rfl (by omega) hy | exact S_ixM rfl rfl (by omega) hx0 | exact S_lookupK (f := Vec.cells) (h := V.int .i64) (b0 := 0) Try.underlying66 rfl rfl rfl rfl | exact S_entK (f := Vec.cells) (h := V.int .i64) Try.underlying66 (vec_bits _) rfl rfl rfl m2 m3 | exact S_entS2 (f := Vec.cells) (h := V.int .i64) rfl rfl rfl rfl (.int _ _) m2 hE1 | exact S_entK (f := Vec.cells) (h := V.int .i64) Try.underlying66 (vec_bits _) rfl rfl rfl q2 q3 | exact S_entS2 (f := Vec.cells) (h := V.int .i64) rfl rfl rfl rfl (.int _ _) q2 hE2 | exact S_call hvc rfl | exact S_cT rfl rfl (by constructor) (by omega) | exact S_cF rfl rfl (by constructor) (by omega) | exact S_al rfl | exact S_bx rfl rfl | exact S_store rfl rfl rfl rfl rfl rfl | (apply Pu.ok; repeat' (first | rfl | exact .inK (by simp only [InK]; omega) | exact .inK (by simp only [InK]; simp at hg; omega) | exact .wr | constructor | decide | omega)))); (try case hp => constructor))
    | refine dpickAnd rfl rfl rfl rfl rfl ?_ | refine dpickOr rfl rfl rfl rfl rfl ?_
    | fail)
          exact loop_again (k + 1, updK es1 b x2) ⟨hlt, hn2, hfin⟩ (by simp only; omega) (Wk_g some rfl rfl (by (repeat' (first | exact trivial | rfl | exact listLe_map _ | exact ⟨_, rfl, .inl rfl⟩ | exact ⟨_, rfl, .inr (.inl rfl)⟩ | exact ⟨_, rfl, .inr (.inr rfl)⟩ | refine ⟨_, _, rfl, rfl, ?_⟩ | exact ⟨_, rfl, rfl⟩ | exact ⟨_, _, _, _, rfl, rfl, rfl⟩ | exact ⟨_, rfl⟩ | exact ⟨_, _, rfl⟩ | refine ⟨_, (rfl : D.fnd _ _ = D.fnd _ _), ?_⟩ | apply And.intro))))
  · have hz : ∀ p ∈ es, p.2 = 0 := fun p hp => by
      have h1 := look_mem hnd hp
      have h2 := hval p.1
      rw [h1, Option.getD_some, List.take_of_length_le (by omega), List.take_of_length_le (by omega)] at h2
      unfold cntV at h2
      rw [hpm.count_eq] at h2
      omega
    by_cases h0 : l.length = 0
    · have hbk := hb0 h0
      repeat' (first
    | refine DW_rangeZ (es := es) rfl rfl hz Try.underlying66 rfl (by decide) (by decide) ?_
    | (apply Stp.go; case a => constructor)
    | refine blk_hit rfl ?_ | refine blk_miss rfl ?_ | refine dnilD (by kernel_rfl) ?_ | refine DW_cond_t rfl ?_ | refine DW_cond_f rfl ?_
    | refine DW_tD rfl (by omega) ?_ | refine DW_fD rfl (by omega) ?_
    | refine dpOff rfl rfl ?_
    | ((first | apply dX rfl | apply dXon rfl rfl | apply dpMay rfl rfl (by intro h; first | trivial | exact ⟨h, trivial⟩ | exact ⟨h, h, trivial⟩ | exact ⟨h, h, h, trivial⟩)); (case h => ((try intro hg); first | exact S_call hbe rfl | exact S_cT rfl rfl (by constructor) (by omega) | exact S_cF rfl rfl (by constructor) (by omega) | exact S_al rfl | exact S_bx rfl rfl | exact S_store rfl rfl rfl rfl rfl rfl | (apply Pu.ok; repeat' (first | rfl | exact .inK (by simp only [InK]; omega) | exact .inK (by simp only [InK]; simp at hg; omega) | exact .wr | constructor | decide | omega)))); (try case hp => constructor))
    | refine dpickAnd rfl rfl rfl rfl rfl ?_ | refine dpickOr rfl rfl rfl rfl rfl ?_
    | fail)
      refine ret1 rfl (by first | exact .inl rfl | exact .inr (flat_of rfl)) ?_
      rfl
    · obtain ⟨g1, g2, v, g3, g4⟩ := hbf (by omega)
      have g5 : s[(0 : Int).toNat]? = some v := g4
      repeat' (first
    | refine DW_rangeZ (es := es) rfl rfl hz Try.underlying66 rfl (by decide) (by decide) ?_
    | (apply Stp.go; case a => constructor)
    | refine blk_hit rfl ?_ | refine blk_miss rfl ?_ | refine dnilD (by kernel_rfl) ?_ | refine DW_cond_t rfl ?_ | refine DW_cond_f rfl ?_
    | refine DW_tD rfl (by omega) ?_ | refine DW_fD rfl (by omega) ?_
    | refine dpOff rfl rfl ?_
    | ((first | apply dX rfl | apply dXon rfl rfl | apply dpMay rfl rfl (by intro h; first | trivial | exact ⟨h, trivial⟩ | exact ⟨h, h, trivial⟩ | exact ⟨h, h, h, trivial⟩)); (case h => ((try intro hg); first | exact S_call hbe rfl | exact S_ixM rfl rfl g1 g3 | exact S_ixM rfl rfl (by decide) g5 | exact as_bool (S_eqlA rfl rfl rfl rfl (eqL_vecK v v)) (decide_eq_true rfl) | exact S_cT rfl rfl (by constructor) (by omega) | exact S_cF rfl rfl (by constructor) (by omega) | exact S_al rfl | exact S_bx rfl rfl | exact S_store rfl rfl rfl rfl rfl rfl | (apply Pu.ok; repeat' (first | rfl | exact .inK (by simp only [InK]; omega) | exact .inK (by simp only [InK]; simp at hg; omega) | exact .wr | constructor | decide | omega)))); (try case hp => constructor))
    | refine dpickAnd rfl rfl rfl rfl rfl ?_ | refine dpickOr rfl rfl rfl rfl rfl ?_
    | fail)
      refine ret1 rfl (by first | exact .inl rfl | exact .inr (flat_of rfl)) ?_
      rfl
end Go.Proofs.Ytkppkgahdoglpaa
