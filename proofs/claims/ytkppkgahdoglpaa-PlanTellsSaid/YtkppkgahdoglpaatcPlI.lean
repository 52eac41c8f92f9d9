/- Identities of bridges; ends of links; offers: what is said of them. -/
import Derived.Test.YtkppkgahdoglpaatdReg
import Derived.Test.YtkppkgahdoglpaatdRgd
import Derived.Test.YtkppkgahdoglpaatcMd5
namespace Go.Proofs.Ytkppkgahdoglpaa
open Go.RowKit
attribute [local irreducible] SStep DW DWin DOps thenQ inBlk loopQ retQ retQG FnF FnG Wk IntKind.wrap IntKind.andI IntKind.orI IntKind.xorI IntKind.andNotI IntKind.shlI IntKind.shrI
set_option maxHeartbeats 2000000 in
theorem ref3_Wrong (r : Region) (hl : r.ways.length ≤ 9223372036854775807) : FnF Try.prog 34 [r.v] (.int .i64 r.wrong) := by
  refine fnF_of Try.func34 rfl rfl rfl ?_
  simp only [envOf]
  by_cases ha : r.name = []
  · repeat' (first
    | (apply Stp.go; case a => constructor)
    | refine blk_hit rfl ?_ | refine blk_miss rfl ?_ | refine dnilD (by kernel_rfl) ?_ | refine DW_cond_t rfl ?_ | refine DW_cond_f rfl ?_
    | refine dpOff rfl rfl ?_
    | ((first | apply dX rfl | apply dXon rfl rfl | apply dpMay rfl rfl (by intro h; first | trivial | exact ⟨h, trivial⟩ | exact ⟨h, h, trivial⟩ | exact ⟨h, h, h, trivial⟩)); (case h => ((try intro hg); first | exact as_bool (S_eqls rfl rfl) (decide_eq_true ha) | exact S_al rfl | exact S_bx rfl rfl | exact S_store rfl rfl rfl rfl rfl rfl | (apply Pu.ok; repeat' (first | rfl | exact .inK (by simp only [InK]; omega) | exact .inK (by simp only [InK]; simp at hg; omega) | exact .wr | constructor | decide | omega)))); (try case hp => constructor))
    | refine dpickAnd rfl rfl rfl rfl rfl ?_ | refine dpickOr rfl rfl rfl rfl rfl ?_
    | fail)
    refine ret1 rfl (.inl rfl) ?_
    congr 1; unfold Region.wrong
    rw [if_pos (.inl (by rw [ha]; decide))]
  have hal : ¬ r.name.length < 1 := fun h => ha (List.length_eq_zero_iff.1 (by omega))
  by_cases hb2 : 32 < r.name.length
  · repeat' (first
    | (apply Stp.go; case a => constructor)
    | refine blk_hit rfl ?_ | refine blk_miss rfl ?_ | refine dnilD (by kernel_rfl) ?_ | refine DW_cond_t rfl ?_ | refine DW_cond_f rfl ?_
    | refine dpOff rfl rfl ?_
    | ((first | apply dX rfl | apply dXon rfl rfl | apply dpMay rfl rfl (by intro h; first | trivial | exact ⟨h, trivial⟩ | exact ⟨h, h, trivial⟩ | exact ⟨h, h, h, trivial⟩)); (case h => ((try intro hg); first | exact as_bool (S_eqls rfl rfl) (decide_eq_false ha) | exact as_bool (S_gtr rfl rfl) (decide_eq_true (by omega : (32 : Int) < (r.name.length : Int))) | exact S_al rfl | exact S_bx rfl rfl | exact S_store rfl rfl rfl rfl rfl rfl | (apply Pu.ok; repeat' (first | rfl | exact .inK (by simp only [InK]; omega) | exact .inK (by simp only [InK]; simp at hg; omega) | exact .wr | constructor | decide | omega)))); (try case hp => constructor))
    | refine dpickAnd rfl rfl rfl rfl rfl ?_ | refine dpickOr rfl rfl rfl rfl rfl ?_
    | fail)
    refine ret1 rfl (.inl rfl) ?_
    congr 1; unfold Region.wrong
    rw [if_pos (.inr hb2)]
  have hnm : (r.name.map byteV).length = r.name.length := by simp
  repeat' (first
    | (apply Stp.go; case a => constructor)
    | refine blk_hit rfl ?_ | refine blk_miss rfl ?_ | refine dnilD (by kernel_rfl) ?_ | refine DW_cond_t rfl ?_ | refine DW_cond_f rfl ?_
    | refine dpOff rfl rfl ?_
    | ((first | apply dX rfl | apply dXon rfl rfl | apply dpMay rfl rfl (by intro h; first | trivial | exact ⟨h, trivial⟩ | exact ⟨h, h, trivial⟩ | exact ⟨h, h, h, trivial⟩)); (case h => ((try intro hg); first | exact as_bool (S_eqls rfl rfl) (decide_eq_false ha) | exact as_bool (S_gtr rfl rfl) (decide_eq_false (by omega : ¬ (32 : Int) < (r.name.length : Int))) | exact S_str_bytes (l := r.name) Try.underlying5 Try.underlying9 rfl (by omega) | exact S_al rfl | exact S_bx rfl rfl | exact S_store rfl rfl rfl rfl rfl rfl | (apply Pu.ok; repeat' (first | rfl | exact .inK (by simp only [InK]; omega) | exact .inK (by simp only [InK]; simp at hg; omega) | exact .wr | constructor | decide | omega)))); (try case hp => constructor))
    | refine dpickAnd rfl rfl rfl rfl rfl ?_ | refine dpickOr rfl rfl rfl rfl rfl ?_
    | fail)
  refine DW_loop (fun k : Nat => ⟨[(1, .ptr 1 0), (19, .dat true (.slice (r.name.map byteV))), (20, .dat true (.int .i64 (r.name.map byteV).length)), (21, .dat true (.int .i64 k))], [(1, .cells false true (r.cells.map (.dat false)))], 72⟩)
    (fun k => k ≤ r.name.length ∧ (r.name.take k).all okC = true) (fun k => r.name.length - k) 0 ⟨Nat.zero_le _, rfl⟩
    (Wk_g some rfl rfl (by (repeat' (first | exact trivial | rfl | exact listLe_map _ | exact ⟨_, rfl, .inl rfl⟩ | exact ⟨_, rfl, .inr (.inl rfl)⟩ | exact ⟨_, rfl, .inr (.inr rfl)⟩ | refine ⟨_, _, rfl, rfl, ?_⟩ | exact ⟨_, rfl, rfl⟩ | exact ⟨_, _, _, _, rfl, rfl, rfl⟩ | exact ⟨_, rfl⟩ | exact ⟨_, _, rfl⟩ | apply And.intro)))) (fun k hR => ?_)
  obtain ⟨hk, hall⟩ := hR
  have hnn : ¬ (r.name.length < 1 ∨ 32 < r.name.length) := by omega
  by_cases hlt : k < r.name.length
  · have hx : r.name[(k : Int).toNat]? = some r.name[k] := by simp [hlt]
    have hx' : r.name[k]? = some r.name[k] := by simp [hlt]
    have hat := all_take hx'
    generalize r.name[k] = c at hx hx' hat
    have hc : okC c = false ↔ ((c.toNat : Int) < 32 ∨ (126 : Int) < c.toNat) := by unfold okC; simp; omega
    repeat' (first
    | (apply Stp.go; case a => constructor)
    | refine blk_hit rfl ?_ | refine blk_miss rfl ?_ | refine dnilD (by kernel_rfl) ?_ | refine DW_cond_t rfl ?_ | refine DW_cond_f rfl ?_
    | refine DW_cond rfl (fun hb => ?_) (fun hb => ?_)
    | refine dpOff rfl rfl ?_
    | ((first | apply dX rfl | apply dXon rfl rfl | apply dpMay rfl rfl (by intro h; first | trivial | exact ⟨h, trivial⟩ | exact ⟨h, h, trivial⟩ | exact ⟨h, h, h, trivial⟩)); (case h => ((try intro hg); first | exact as_bool (S_lss rfl rfl) (decide_eq_true (by omega : (k : Int) < ((r.name.map byteV).length : Int))) | exact S_ixM (f := byteV) (us := r.name) rfl rfl (by omega) hx | exact S_al rfl | exact S_bx rfl rfl | exact S_store rfl rfl rfl rfl rfl rfl | (apply Pu.ok; repeat' (first | rfl | exact .inK (by simp only [InK]; omega) | exact .inK (by simp only [InK]; simp at hg; omega) | exact .wr | constructor | decide | omega)))); (try case hp => constructor))
    | refine dpickAnd rfl rfl rfl rfl rfl ?_ | refine dpickOr rfl rfl rfl rfl rfl ?_
    | fail)
    · refine ret1 rfl (.inl rfl) ?_
      simp only [Bool.or_eq_true, decide_eq_true_eq] at hb
      congr 1; unfold Region.wrong
      rw [if_neg hnn, if_pos (not_all hx' (hc.2 hb))]
    · simp only [Bool.or_eq_false_iff, decide_eq_false_iff_not] at hb
      refine loop_again (k + 1) ⟨hlt, ?_⟩ (by omega) (Wk_g some rfl rfl (by (repeat' (first | exact trivial | rfl | exact listLe_map _ | exact ⟨_, rfl, .inl rfl⟩ | exact ⟨_, rfl, .inr (.inl rfl)⟩ | exact ⟨_, rfl, .inr (.inr rfl)⟩ | refine ⟨_, _, rfl, rfl, ?_⟩ | exact ⟨_, rfl, rfl⟩ | exact ⟨_, _, _, _, rfl, rfl, rfl⟩ | exact ⟨_, rfl⟩ | exact ⟨_, _, rfl⟩ | apply And.intro))))
      rw [hat, hall]
      cases ho : okC c with
      | true => rfl
      | false => have := hc.1 ho; omega
  · rw [List.take_of_length_le (by omega)] at hall
    have hall' : ¬ r.name.all okC = false := by rw [hall]; simp
    have hend : decide ((k : Int) < ((r.name.map byteV).length : Int)) = false := decide_eq_false (by omega)
    by_cases h0 : r.rev < 0
    · repeat' (first
    | (apply Stp.go; case a => constructor)
    | refine blk_hit rfl ?_ | refine blk_miss rfl ?_ | refine dnilD (by kernel_rfl) ?_ | refine DW_cond_t rfl ?_ | refine DW_cond_f rfl ?_
    | refine dpOff rfl rfl ?_
    | ((first | apply dX rfl | apply dXon rfl rfl | apply dpMay rfl rfl (by intro h; first | trivial | exact ⟨h, trivial⟩ | exact ⟨h, h, trivial⟩ | exact ⟨h, h, h, trivial⟩)); (case h => ((try intro hg); first | exact as_bool (S_lss rfl rfl) hend | exact as_bool (S_lss rfl rfl) (decide_eq_true h0) | exact S_al rfl | exact S_bx rfl rfl | exact S_store rfl rfl rfl rfl rfl rfl | (apply Pu.ok; repeat' (first | rfl | exact .inK (by simp only [InK]; omega) | exact .inK (by simp only [InK]; simp at hg; omega) | exact .wr | constructor | decide | omega)))); (try case hp => constructor))
    | refine dpickAnd rfl rfl rfl rfl rfl ?_ | refine dpickOr rfl rfl rfl rfl rfl ?_
    | fail)
      refine ret1 rfl (.inl rfl) ?_
      congr 1; unfold Region.wrong
      rw [if_neg hnn, if_neg hall', if_pos (.inl h0)]
    by_cases h6 : 65535 < r.rev
    · repeat' (first
    | (apply Stp.go; case a => constructor)
    | refine blk_hit rfl ?_ | refine blk_miss rfl ?_ | refine dnilD (by kernel_rfl) ?_ | refine DW_cond_t rfl ?_ | refine DW_cond_f rfl ?_
    | refine dpOff rfl rfl ?_
    | ((first | apply dX rfl | apply dXon rfl rfl | apply dpMay rfl rfl (by intro h; first | trivial | exact ⟨h, trivial⟩ | exact ⟨h, h, trivial⟩ | exact ⟨h, h, h, trivial⟩)); (case h => ((try intro hg); first | exact as_bool (S_lss rfl rfl) hend | exact as_bool (S_lss rfl rfl) (decide_eq_false h0) | exact as_bool (S_gtr rfl rfl) (decide_eq_true h6) | exact S_al rfl | exact S_bx rfl rfl | exact S_store rfl rfl rfl rfl rfl rfl | (apply Pu.ok; repeat' (first | rfl | exact .inK (by simp only [InK]; omega) | exact .inK (by simp only [InK]; simp at hg; omega) | exact .wr | constructor | decide | omega)))); (try case hp => constructor))
    | refine dpickAnd rfl rfl rfl rfl rfl ?_ | refine dpickOr rfl rfl rfl rfl rfl ?_
    | fail)
      refine ret1 rfl (.inl rfl) ?_
      congr 1; unfold Region.wrong
      rw [if_neg hnn, if_neg hall', if_pos (.inr h6)]
    have hw0 : r.wrong = waysW 0 r.ways := by unfold Region.wrong; rw [if_neg hnn, if_neg hall', if_neg (by omega)]
    rw [hw0]
    have hml : (r.ways.map wayV).length = r.ways.length := by simp
    repeat' (first
    | (apply Stp.go; case a => constructor)
    | refine blk_hit rfl ?_ | refine blk_miss rfl ?_ | refine dnilD (by kernel_rfl) ?_ | refine DW_cond_t rfl ?_ | refine DW_cond_f rfl ?_
    | refine dpOff rfl rfl ?_
    | ((first | apply dX rfl | apply dXon rfl rfl | apply dpMay rfl rfl (by intro h; first | trivial | exact ⟨h, trivial⟩ | exact ⟨h, h, trivial⟩ | exact ⟨h, h, h, trivial⟩)); (case h => ((try intro hg); first | exact as_bool (S_lss rfl rfl) hend | exact as_bool (S_lss rfl rfl) (decide_eq_false h0) | exact as_bool (S_gtr rfl rfl) (decide_eq_false h6) | exact S_al rfl | exact S_bx rfl rfl | exact S_store rfl rfl rfl rfl rfl rfl | (apply Pu.ok; repeat' (first | rfl | exact .inK (by simp only [InK]; omega) | exact .inK (by simp only [InK]; simp at hg; omega) | exact .wr | constructor | decide | omega)))); (try case hp => constructor))
    | refine dpickAnd rfl rfl rfl rfl rfl ?_ | refine dpickOr rfl rfl rfl rfl rfl ?_
    | fail)
    refine DW_loop (fun p : Nat × Int => ⟨[(1, .ptr 1 0), (5, .dat true (.int .i64 p.2)), (41, .dat false (.slice (r.ways.map wayV))), (42, .dat true (.int .i64 (r.ways.map wayV).length)), (43, .dat true (.int .i64 p.1))], [(1, .cells false true (r.cells.map (.dat false)))], 72⟩)
      (fun p => p.1 ≤ r.ways.length ∧ waysW 0 r.ways = waysW p.2 (r.ways.drop p.1)) (fun p => r.ways.length - p.1) (0, 0) ⟨Nat.zero_le _, rfl⟩
      (Wk_g some rfl rfl (by (repeat' (first | exact trivial | rfl | exact listLe_map _ | exact ⟨_, rfl, .inl rfl⟩ | exact ⟨_, rfl, .inr (.inl rfl)⟩ | exact ⟨_, rfl, .inr (.inr rfl)⟩ | refine ⟨_, _, rfl, rfl, ?_⟩ | exact ⟨_, rfl, rfl⟩ | exact ⟨_, _, _, _, rfl, rfl, rfl⟩ | exact ⟨_, rfl⟩ | exact ⟨_, _, rfl⟩ | apply And.intro)))) (fun p hR => ?_)
    obtain ⟨k, last⟩ := p
    obtain ⟨hk, hw⟩ := hR
    simp only at hk hw
    dsimp only
    by_cases hlt : k < r.ways.length
    · have hx : r.ways[(k : Int).toNat]? = some r.ways[k] := by simp [hlt]
      have hn : r.ways.drop k = r.ways[k] :: r.ways.drop (k + 1) := List.drop_eq_getElem_cons hlt
      generalize r.ways[k] = t at hx hn
      rw [hn, waysW] at hw
      repeat' (first
    | (apply Stp.go; case a => constructor)
    | refine blk_hit rfl ?_ | refine blk_miss rfl ?_ | refine dnilD (by kernel_rfl) ?_ | refine DW_cond_t rfl ?_ | refine DW_cond_f rfl ?_
    | refine DW_cond rfl (fun hb => ?_) (fun hb => ?_)
    | refine dpOff rfl rfl ?_
    | ((first | apply dX rfl | apply dXon rfl rfl | apply dpMay rfl rfl (by intro h; first | trivial | exact ⟨h, trivial⟩ | exact ⟨h, h, trivial⟩ | exact ⟨h, h, h, trivial⟩)); (case h => ((try intro hg); first | exact as_bool (S_lss rfl rfl) (decide_eq_true (by omega : (k : Int) < ((r.ways.map wayV).length : Int))) | exact S_ixM rfl rfl (by omega) hx | exact S_al rfl | exact S_bx rfl rfl | exact S_store rfl rfl rfl rfl rfl rfl | (apply Pu.ok; repeat' (first | rfl | exact .inK (by simp only [InK]; omega) | exact .inK (by simp only [InK]; simp at hg; omega) | exact .wr | constructor | decide | omega)))); (try case hp => constructor))
    | refine dpickAnd rfl rfl rfl rfl rfl ?_ | refine dpickOr rfl rfl rfl rfl rfl ?_
    | fail)
      · refine ret1 rfl (.inl rfl) ?_
        simp only [Bool.or_eq_true, decide_eq_true_eq] at hb
        rw [hw, if_pos (by unfold Way.bad; omega)]
      · rename_i hb1
        simp only [Bool.or_eq_false_iff, decide_eq_true_eq, decide_eq_false_iff_not] at hb hb1
        refine ret1 rfl (.inl rfl) ?_
        rw [hw, if_neg (by unfold Way.bad; omega), if_pos (by omega)]
      · rename_i hb1
        simp only [Bool.or_eq_false_iff, decide_eq_false_iff_not] at hb hb1
        refine loop_again (k + 1, t.vid) ⟨hlt, ?_⟩ (by simp only; omega) (Wk_g some rfl rfl (by (repeat' (first | exact trivial | rfl | exact listLe_map _ | exact ⟨_, rfl, .inl rfl⟩ | exact ⟨_, rfl, .inr (.inl rfl)⟩ | exact ⟨_, rfl, .inr (.inr rfl)⟩ | refine ⟨_, _, rfl, rfl, ?_⟩ | exact ⟨_, rfl, rfl⟩ | exact ⟨_, _, _, _, rfl, rfl, rfl⟩ | exact ⟨_, rfl⟩ | exact ⟨_, _, rfl⟩ | apply And.intro))))
        simp only
        rw [hw, if_neg (by unfold Way.bad; omega), if_neg (by omega)]
    · repeat' (first
    | (apply Stp.go; case a => constructor)
    | refine blk_hit rfl ?_ | refine blk_miss rfl ?_ | refine dnilD (by kernel_rfl) ?_ | refine DW_cond_t rfl ?_ | refine DW_cond_f rfl ?_
    | refine dpOff rfl rfl ?_
    | ((first | apply dX rfl | apply dXon rfl rfl | apply dpMay rfl rfl (by intro h; first | trivial | exact ⟨h, trivial⟩ | exact ⟨h, h, trivial⟩ | exact ⟨h, h, h, trivial⟩)); (case h => ((try intro hg); first | exact as_bool (S_lss rfl rfl) (decide_eq_false (by omega : ¬ (k : Int) < ((r.ways.map wayV).length : Int))) | exact S_al rfl | exact S_bx rfl rfl | exact S_store rfl rfl rfl rfl rfl rfl | (apply Pu.ok; repeat' (first | rfl | exact .inK (by simp only [InK]; omega) | exact .inK (by simp only [InK]; simp at hg; omega) | exact .wr | constructor | decide | omega)))); (try case hp => constructor))
    | refine dpickAnd rfl rfl rfl rfl rfl ?_ | refine dpickOr rfl rfl rfl rfl rfl ?_
    | fail)
      refine ret1 rfl (.inl rfl) ?_
      rw [hw, List.drop_eq_nil_of_le (by omega)]
      rfl
end Go.Proofs.Ytkppkgahdoglpaa
namespace Go.Proofs.Ytkppkgahdoglpaa
open Go.RowKit
attribute [local irreducible] SStep DW DWin DOps thenQ inBlk loopQ retQ retQG FnF FnG Wk IntKind.wrap IntKind.andI IntKind.orI IntKind.xorI IntKind.andNotI IntKind.shlI IntKind.shrI macS digestR
theorem region_IdentG (r : Region) (hr : r.right) : FnG Try.prog 59 [.dat false r.v] [] (.own 1000 0 0 (identR r).length) [(1000, .row 0 false true 1 ((identR r).map byteV))] := by
  refine fnG_of Try.func59 rfl rfl rfl ?_
  simp only [envD]
  have hD := region_Digest r hr
  have hdl := digestR_len r.ways
  have n2 := hr.n2
  obtain ⟨b1, _, b2, _⟩ := byte_hi hr.r0
  have hcp : r.name.take 32 ++ (List.replicate 32 0).drop r.name.length = r.name ++ List.replicate (32 - r.name.length) 0 := by
    rw [List.take_of_length_le n2, List.drop_replicate]
  repeat' (first
    | (apply dt rfl; case h => exact S_mkM (f := byteV) (l := 32) (c := 50) (0 : UInt8) _ rfl rfl rfl rfl (by decide) (by decide) rfl rfl)
    | (apply Stp.go; case a => constructor)
    | refine blk_hit rfl ?_ | refine blk_miss rfl ?_ | refine dnilD (by kernel_rfl) ?_ | refine DW_cond_t rfl ?_ | refine DW_cond_f rfl ?_
    | refine dpOff rfl rfl ?_
    | ((first | apply dX rfl | apply dXon rfl rfl | apply dpMay rfl rfl (by intro h; first | trivial | exact ⟨h, trivial⟩ | exact ⟨h, h, trivial⟩ | exact ⟨h, h, h, trivial⟩)); (case h => ((try intro hg); first | exact S_copyS (us := List.replicate 32 0) (bs := r.name) rfl rfl rfl rfl | exact C_toInt rfl b1 | exact C_toInt rfl b2 | exact S_shr rfl rfl (by decide) | exact S_call hD rfl | exact S_appM (f := byteV) (us := r.name.take 32 ++ (List.replicate 32 0).drop r.name.length) (bs := [byteAt r.rev 1, byteAt r.rev 0]) rfl rfl (.dat _ _) rfl (by rw [hcp]; simp; omega) (.inr ⟨rfl, inferInstance⟩) rfl (by rw [hcp]; simp; omega) | exact S_appM (f := byteV) (bs := digestR r.ways) rfl rfl (.dat _ _) rfl rfl (.inr ⟨rfl, inferInstance⟩) rfl (by rw [hcp]; simp; omega) | exact S_al rfl | exact S_bx rfl rfl | exact S_store rfl rfl rfl rfl rfl rfl | (apply Pu.ok; repeat' (first | rfl | exact .inK (by simp only [InK]; omega) | exact .inK (by simp only [InK]; simp at hg; omega) | exact .wr | constructor | decide | omega)))); (try case hp => constructor))
    | refine dpickAnd rfl rfl rfl rfl rfl ?_ | refine dpickOr rfl rfl rfl rfl rfl ?_
    | fail)
  rw [hcp]
  exact gOwn (Wk_g (fun g => if g = 1000 then some 4 else none) rfl rfl (by (repeat' (first | exact trivial | rfl | exact listLe_map _ | exact ⟨_, rfl, .inl rfl⟩ | exact ⟨_, rfl, .inr (.inl rfl)⟩ | exact ⟨_, rfl, .inr (.inr rfl)⟩ | refine ⟨_, _, rfl, rfl, ?_⟩ | exact ⟨_, rfl, rfl⟩ | exact ⟨_, _, _, _, rfl, rfl, rfl⟩ | exact ⟨_, rfl⟩ | exact ⟨_, _, rfl⟩ | apply And.intro))))
theorem region_Ident (r : Region) (hr : r.right) : FnF Try.prog 59 [r.v] (.slice ((identR r).map byteV)) :=
  fnF_own (ds := [r.v]) (region_IdentG r hr) (by rw [List.length_map])
set_option maxHeartbeats 1000000 in
theorem ref3_IdentG (r : Region) (hr : r.right) : FnG Try.prog 48 [.dat false r.v] [] (.own 1000 0 0 (identR r).length) [(1000, .row 0 false true 1 ((identR r).map byteV))] := by
  refine fnG_of Try.func48 rfl rfl rfl ?_
  simp only [envD]
  have hD := ref3_Digest r hr
  have hdl := digestR_len r.ways
  have n2 := hr.n2
  have r0 := hr.r0
  have r1 := hr.r1
  obtain ⟨_, b1, _, b2⟩ := byte_hi hr.r0
  have hq : IntKind.i64.wrap (r.rev.tdiv 256) = r.rev / 256 := by rw [Int.tdiv_eq_ediv_of_nonneg r0, wrap_in]; simp only [InK]; omega
  have hm : r.rev.tmod 256 = r.rev % 256 := Int.tmod_eq_emod_of_nonneg r0
  repeat' (first
    | (apply dt rfl; case h => exact S_str_bytesO (l := r.name) _ Try.underlying5 Try.underlying9 rfl (by omega) rfl)
    | (apply Stp.go; case a => constructor)
    | refine blk_hit rfl ?_ | refine blk_miss rfl ?_ | refine dnilD (by kernel_rfl) ?_ | refine DW_cond_t rfl ?_ | refine DW_cond_f rfl ?_
    | refine dpOff rfl rfl ?_
    | ((first | apply dX rfl | apply dXon rfl rfl | apply dpMay rfl rfl (by intro h; first | trivial | exact ⟨h, trivial⟩ | exact ⟨h, h, trivial⟩ | exact ⟨h, h, h, trivial⟩)); (case h => ((try intro hg); first | exact S_al rfl | exact S_bx rfl rfl | exact S_store rfl rfl rfl rfl rfl rfl | (apply Pu.ok; repeat' (first | rfl | exact .inK (by simp only [InK]; omega) | exact .inK (by simp only [InK]; simp at hg; omega) | exact .wr | constructor | decide | omega)))); (try case hp => constructor))
    | refine dpickAnd rfl rfl rfl rfl rfl ?_ | refine dpickOr rfl rfl rfl rfl rfl ?_
    | fail)
  refine DW_loop (fun p : Nat × List UInt8 => ⟨[(1, .ptr 1 0), (3, .own 6 0 0 p.2.length)], [(1, .cells false true (r.cells.map (.dat false))), (6, .row 0 false true 1 (p.2.map byteV))], 28⟩)
    (fun p => p.1 ≤ 32 - r.name.length ∧ p.2 = r.name ++ List.replicate p.1 0) (fun p => 32 - p.1) (0, r.name) ⟨Nat.zero_le _, by simp⟩
    (Wk_g some rfl rfl (by (repeat' (first | exact trivial | rfl | exact listLe_map _ | exact ⟨_, rfl, .inl rfl⟩ | exact ⟨_, rfl, .inr (.inl rfl)⟩ | exact ⟨_, rfl, .inr (.inr rfl)⟩ | refine ⟨_, _, rfl, rfl, ?_⟩ | exact ⟨_, rfl, rfl⟩ | exact ⟨_, _, _, _, rfl, rfl, rfl⟩ | exact ⟨_, rfl⟩ | exact ⟨_, _, rfl⟩ | apply And.intro)))) (fun p hR => ?_)
  obtain ⟨z, m⟩ := p
  obtain ⟨hz, hm'⟩ := hR
  simp only at hz hm'
  dsimp only
  have hml : m.length = r.name.length + z := by rw [hm']; simp
  by_cases hlt : m.length < 32
  · repeat' (first
    | (apply Stp.go; case a => constructor)
    | refine blk_hit rfl ?_ | refine blk_miss rfl ?_ | refine dnilD (by kernel_rfl) ?_ | refine DW_cond_t rfl ?_ | refine DW_cond_f rfl ?_
    | refine dpOff rfl rfl ?_
    | ((first | apply dX rfl | apply dXon rfl rfl | apply dpMay rfl rfl (by intro h; first | trivial | exact ⟨h, trivial⟩ | exact ⟨h, h, trivial⟩ | exact ⟨h, h, h, trivial⟩)); (case h => ((try intro hg); first | exact as_bool (S_lss rfl rfl) (decide_eq_true (by omega : (m.length : Int) < 32)) | exact S_appM (f := byteV) (us := m) (bs := [0]) rfl rfl (.dat _ _) rfl rfl (.inr ⟨rfl, inferInstance⟩) rfl (by simp only [List.length_cons, List.length_nil]; omega) | exact S_al rfl | exact S_bx rfl rfl | exact S_store rfl rfl rfl rfl rfl rfl | (apply Pu.ok; repeat' (first | rfl | exact .inK (by simp only [InK]; omega) | exact .inK (by simp only [InK]; simp at hg; omega) | exact .wr | constructor | decide | omega)))); (try case hp => constructor))
    | refine dpickAnd rfl rfl rfl rfl rfl ?_ | refine dpickOr rfl rfl rfl rfl rfl ?_
    | fail)
    refine loop_again (z + 1, m ++ [0]) ⟨by simp only; omega, ?_⟩ (by simp only; omega) (Wk_g some rfl rfl (by (repeat' (first | exact trivial | rfl | exact listLe_map _ | exact ⟨_, rfl, .inl rfl⟩ | exact ⟨_, rfl, .inr (.inl rfl)⟩ | exact ⟨_, rfl, .inr (.inr rfl)⟩ | refine ⟨_, _, rfl, rfl, ?_⟩ | exact ⟨_, rfl, rfl⟩ | exact ⟨_, _, _, _, rfl, rfl, rfl⟩ | exact ⟨_, rfl⟩ | exact ⟨_, _, rfl⟩ | apply And.intro))))
    simp only
    rw [hm', List.replicate_succ', ← List.append_assoc]
  · have hze : z = 32 - r.name.length := by omega
    subst hze
    have hid : identR r = m ++ [byteAt r.rev 1, byteAt r.rev 0] ++ digestR r.ways := by unfold identR; rw [hm']
    rw [hid]
    repeat' (first
    | (apply Stp.go; case a => constructor)
    | refine blk_hit rfl ?_ | refine blk_miss rfl ?_ | refine dnilD (by kernel_rfl) ?_ | refine DW_cond_t rfl ?_ | refine DW_cond_f rfl ?_
    | refine dpOff rfl rfl ?_
    | ((first | apply dX rfl | apply dXon rfl rfl | apply dpMay rfl rfl (by intro h; first | trivial | exact ⟨h, trivial⟩ | exact ⟨h, h, trivial⟩ | exact ⟨h, h, h, trivial⟩)); (case h => ((try intro hg); first | exact as_bool (S_lss rfl rfl) (decide_eq_false (by omega : ¬ (m.length : Int) < 32)) | exact as_int (S_quo rfl rfl (by decide)) hq | exact as_int (S_rem rfl rfl (by decide)) hm | exact C_toInt rfl b1 | exact C_toInt rfl b2 | exact S_call hD rfl | exact S_appM (f := byteV) (us := m) (bs := [byteAt r.rev 1, byteAt r.rev 0]) rfl rfl (.dat _ _) rfl rfl (.inr ⟨rfl, inferInstance⟩) rfl (by simp only [List.length_cons, List.length_nil]; omega) | exact S_appM (f := byteV) (us := m ++ [byteAt r.rev 1, byteAt r.rev 0]) (bs := digestR r.ways) rfl rfl (.dat _ _) rfl rfl (.inr ⟨rfl, inferInstance⟩) rfl (by simp only [List.length_append, List.length_cons, List.length_nil]; omega) | exact S_al rfl | exact S_bx rfl rfl | exact S_store rfl rfl rfl rfl rfl rfl | (apply Pu.ok; repeat' (first | rfl | exact .inK (by simp only [InK]; omega) | exact .inK (by simp only [InK]; simp at hg; omega) | exact .wr | constructor | decide | omega)))); (try case hp => constructor))
    | refine dpickAnd rfl rfl rfl rfl rfl ?_ | refine dpickOr rfl rfl rfl rfl rfl ?_
    | fail)
    exact gOwn (Wk_g (fun g => if g = 1000 then some 6 else none) rfl rfl (by (repeat' (first | exact trivial | rfl | exact listLe_map _ | exact ⟨_, rfl, .inl rfl⟩ | exact ⟨_, rfl, .inr (.inl rfl)⟩ | exact ⟨_, rfl, .inr (.inr rfl)⟩ | refine ⟨_, _, rfl, rfl, ?_⟩ | exact ⟨_, rfl, rfl⟩ | exact ⟨_, _, _, _, rfl, rfl, rfl⟩ | exact ⟨_, rfl⟩ | exact ⟨_, _, rfl⟩ | apply And.intro))))
theorem ref3_Ident (r : Region) (hr : r.right) : FnF Try.prog 48 [r.v] (.slice ((identR r).map byteV)) :=
  fnF_own (ds := [r.v]) (ref3_IdentG r hr) (by rw [List.length_map])
end Go.Proofs.Ytkppkgahdoglpaa
namespace Go.Proofs.Ytkppkgahdoglpaa
open Go.RowKit
structure Bridge.ok (b : Bridge) : Prop where
  a0 : 0 ≤ b.addr
  a1 : b.addr ≤ 281474976710655
  n : b.prios.length ≤ 16
  p : ∀ p ∈ b.prios, ¬ prioBad p
  r : b.region.right
def Bridge.prio (b : Bridge) (t : Int) : Int := if 0 ≤ t then (b.prios[t.toNat]?).getD 32768 else 32768
def Bridge.id (b : Bridge) (t : Int) : Int := b.prio t * 281474976710656 + b.addr
theorem Bridge.prio_in {b : Bridge} (h : b.ok) (t : Int) : 0 ≤ b.prio t ∧ b.prio t ≤ 61440 := by
  unfold Bridge.prio
  split
  · cases hx : b.prios[t.toNat]? with
    | none => simp
    | some p =>
      have := h.p p (List.mem_of_getElem? hx)
      unfold prioBad at this
      rw [Option.getD_some]; omega
  · omega
theorem shl_48 {a : Int} (h : 0 ≤ a) (h2 : a ≤ 61440) : IntKind.u64.shlI a 48 = a * 281474976710656 := by
  unfold IntKind.shlI
  have e : (2 : Int) ^ (min (48 : Int).toNat IntKind.u64.bits) = 281474976710656 := by decide
  rw [e, wrap_u64]; omega
theorem or_48 {p v : Int} (h : 0 ≤ p) (h2 : p ≤ 61440) (k : 0 ≤ v) (k2 : v ≤ 281474976710655) : IntKind.u64.orI (p * 281474976710656) v = p * 281474976710656 + v := by
  unfold IntKind.orI
  have hb : IntKind.u64.bits = 64 := rfl
  rw [hb]
  have e1 : (BitVec.ofInt 64 (p * 281474976710656)).toNat = (p * 281474976710656).toNat := by
    rw [BitVec.toNat_ofInt]; omega
  have e2 : (BitVec.ofInt 64 v).toNat = v.toNat := by
    rw [BitVec.toNat_ofInt]; omega
  rw [BitVec.toNat_or, e1, e2]
  have e : (p * 281474976710656).toNat = p.toNat <<< 48 := by rw [Nat.shiftLeft_eq]; omega
  rw [e, ← Nat.shiftLeft_add_eq_or_of_lt (by omega : v.toNat < 2 ^ 48), Nat.shiftLeft_eq, wrap_u64]
  omega
structure End where
  port : Int
  cost : Int
  other : Int
  oport : Int
def endV (e : End) : List V := [.int .i64 e.port, .int .i64 e.cost, .int .i64 e.other, .int .i64 e.oport]
instance : CellsI endV 4 := ⟨fun _ => rfl, fun t d h => by
  simp only [endV, List.mem_cons, List.mem_nil_iff, or_false] at h
  rcases h with rfl | rfl | rfl | rfl <;> rfl⟩
instance : FlatI endV := ⟨fun t d h => by
  simp only [endV, List.mem_cons, List.mem_nil_iff, or_false] at h
  rcases h with rfl | rfl | rfl | rfl <;> exact .int _ _⟩
instance : CellsI Offer.cells 7 := ⟨fun _ => rfl, fun t d h => by
  simp only [Offer.cells, List.mem_cons, List.mem_nil_iff, or_false] at h
  rcases h with rfl | rfl | rfl | rfl | rfl | rfl | rfl <;> rfl⟩
instance : FlatI Offer.cells := ⟨fun t d h => by
  simp only [Offer.cells, List.mem_cons, List.mem_nil_iff, or_false] at h
  rcases h with rfl | rfl | rfl | rfl | rfl | rfl | rfl <;> exact .int _ _⟩
instance : CellsI Vec.cells 4 := ⟨fun _ => rfl, fun t d h => by
  simp only [Vec.cells, List.mem_cons, List.mem_nil_iff, or_false] at h
  rcases h with rfl | rfl | rfl | rfl <;> rfl⟩
instance : FlatI Vec.cells := ⟨fun t d h => by
  simp only [Vec.cells, List.mem_cons, List.mem_nil_iff, or_false] at h
  rcases h with rfl | rfl | rfl | rfl <;> exact .int _ _⟩
def offerOf (says : List Vec) (e : End) : Offer := ⟨e.port, e.cost, 0, { (says[e.other.toNat]?).getD .zero with port := e.oport }⟩
def offersOf (ends : List End) (says : List Vec) : List Offer := ends.map (offerOf says)
def idsR (bs : List Bridge) : List (List UInt8) := bs.map fun b => identR b.region
def bytesR (x : List UInt8) : List V := [.slice (x.map byteV)]
instance : CellsI bytesR 1 := ⟨fun _ => rfl, fun t d h => by
  simp only [bytesR, List.mem_cons, List.mem_nil_iff, or_false] at h
  subst h; rfl⟩
def endAt (i : Int) (l : Link) : List End := (if l.a = i then [⟨l.pa, l.cost, l.b, l.pb⟩] else []) ++ (if l.b = i then [⟨l.pb, l.cost, l.a, l.pa⟩] else [])
def portAt (i : Int) (l : Link) : List Int := (if l.a = i then [l.pa] else []) ++ (if l.b = i then [l.pb] else [])
def portsOf (ls : List Link) (i : Int) : List Int := (ls.flatMap (portAt i)).mergeSort fun x y => decide (x ≤ y)
end Go.Proofs.Ytkppkgahdoglpaa
