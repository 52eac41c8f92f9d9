/- Contracts: identities of regions. -/
import Derived.Test.YtppficphaidoaaadRgd
import Derived.Test.YtppficphaidoaaadRgv
namespace Go.Proofs.Ytppficphaidoaaa
open Go.RowKit
attribute [local irreducible] SStep DW DWin DOps thenQ inBlk loopQ retQ retQG FnF FnG Wk IntKind.wrap IntKind.andI IntKind.orI IntKind.xorI IntKind.andNotI IntKind.shlI IntKind.shrI macS digestR
theorem identR_len {r : Region} (h : r.name.length ≤ 32) : (identR r).length = 50 := by
  have := digestR_len r.ways
  unfold identR; simp; omega
theorem region_IdentG (r : Region) (hr : r.right) : FnG Try.prog 19 [.dat false r.v] [] (.own 1000 0 0 (identR r).length) [(1000, .row 0 false true 1 ((identR r).map byteV))] := by
  refine fnG_of Try.func19 rfl rfl rfl ?_
  simp only [envD]
  have hD := region_Digest r hr
  have hdl := digestR_len r.ways
  have n2 := hr.n2
  obtain ⟨b1, _, b2, _⟩ := byte_hi hr.r0
  have hcp : r.name.take 32 ++ (List.replicate 32 0).drop r.name.length = r.name ++ List.replicate (32 - r.name.length) 0 := by
    rw [List.take_of_length_le n2, List.drop_replicate]
  repeat' (first
    | (apply dt rfl; case h => exact S_mkM (f := byteV) (l := 32) (c := 50) (0 : UInt8) _ rfl rfl rfl rfl (by decide) (by decide) rfl rfl)
    | refine DW_seq ?_
    | refine DW_region ?_
    | refine DW_draw ?_
    | refine dnilP ?_
    | refine dnilD (by kernel_rfl) ?_
    | refine then_normal ?_
    | refine then_exit ?_
    | refine then_ret ?_
    | refine DW_block ?_
    | refine blk_normal ?_
    | refine blk_ret ?_
    | refine blk_hit rfl ?_
    | refine blk_miss rfl ?_
    | refine loop_exit ?_
    | refine loop_ret ?_
    | refine DW_ret ?_
    | refine DW_exit ?_
    | refine DW_skip ?_
    | refine DW_cond_t rfl ?_
    | refine DW_cond_f rfl ?_
    | (apply dpC rfl; case h => first | exact S_call hD rfl | (apply Pu.ok; repeat' (first | rfl | exact .inK (by simp only [InK]; omega) | exact .inK (by simp only [InK]; simp at hg; omega) | exact .wr | constructor | decide | omega)))
    | (apply dmC rfl; case h => first | exact S_copyS (us := List.replicate 32 0) (bs := r.name) rfl rfl rfl rfl | exact S_appM (f := byteV) (us := r.name.take 32 ++ (List.replicate 32 0).drop r.name.length) (bs := [byteAt r.rev 1, byteAt r.rev 0]) rfl rfl (.dat _ _) rfl (by rw [hcp]; simp; omega) (.inr ⟨rfl, inferInstance⟩) rfl (by rw [hcp]; simp; omega) | exact S_appM (f := byteV) (bs := digestR r.ways) rfl rfl (.dat _ _) rfl rfl (.inr ⟨rfl, inferInstance⟩) rfl (by rw [hcp]; simp; omega))
    | refine dpOff rfl rfl ?_
    | (apply dmOn rfl rfl; case h => first | exact S_copyS (us := List.replicate 32 0) (bs := r.name) rfl rfl rfl rfl | exact S_appM (f := byteV) (us := r.name.take 32 ++ (List.replicate 32 0).drop r.name.length) (bs := [byteAt r.rev 1, byteAt r.rev 0]) rfl rfl (.dat _ _) rfl (by rw [hcp]; simp; omega) (.inr ⟨rfl, inferInstance⟩) rfl (by rw [hcp]; simp; omega) | exact S_appM (f := byteV) (bs := digestR r.ways) rfl rfl (.dat _ _) rfl rfl (.inr ⟨rfl, inferInstance⟩) rfl (by rw [hcp]; simp; omega))
    | ((first | apply dp rfl | apply dpOn rfl rfl | apply dpMay rfl rfl (by first | exact fun _ => trivial | exact fun h => ⟨h, trivial⟩ | exact fun h => ⟨h, h, trivial⟩ | exact fun h => ⟨h, h, h, trivial⟩)); case h => ((try intro hg); first | exact C_toInt rfl b1 | exact C_toInt rfl b2 | exact S_shr rfl rfl (by decide) | exact S_copyS (us := List.replicate 32 0) (bs := r.name) rfl rfl rfl rfl | exact S_call hD rfl | exact S_appM (f := byteV) (us := r.name.take 32 ++ (List.replicate 32 0).drop r.name.length) (bs := [byteAt r.rev 1, byteAt r.rev 0]) rfl rfl (.dat _ _) rfl (by rw [hcp]; simp; omega) (.inr ⟨rfl, inferInstance⟩) rfl (by rw [hcp]; simp; omega) | exact S_appM (f := byteV) (bs := digestR r.ways) rfl rfl (.dat _ _) rfl rfl (.inr ⟨rfl, inferInstance⟩) rfl (by rw [hcp]; simp; omega) | (apply Pu.ok; repeat' (first | rfl | exact .inK (by simp only [InK]; omega) | exact .inK (by simp only [InK]; simp at hg; omega) | exact .wr | constructor | decide | omega))))
    | refine dpickAnd rfl rfl rfl rfl rfl ?_ | refine dpickOr rfl rfl rfl rfl rfl ?_
    | (apply dt rfl; case h => first | exact C_toInt rfl b1 | exact C_toInt rfl b2 | exact S_alloc _ rfl | exact S_box _ rfl rfl)
    | (apply ds; case h => first | exact C_toInt rfl b1 | exact C_toInt rfl b2 | exact S_store rfl rfl rfl rfl rfl rfl)
    | (apply dm rfl; case h => first | exact C_toInt rfl b1 | exact C_toInt rfl b2 | exact M_d rfl | exact S_alloc 2001 rfl | exact S_alloc 2002 rfl | exact S_alloc 2003 rfl | exact S_alloc 2004 rfl | exact S_alloc 2005 rfl)
    | fail)
  rw [hcp]
  exact gOwn (Wk_gen (fun g => if g = 1000 then some 4 else none) rfl rfl (by (repeat' (first | exact trivial | rfl | exact listLe_map _ | exact ⟨_, rfl, .inl rfl⟩ | exact ⟨_, rfl, .inr (.inl rfl)⟩ | exact ⟨_, rfl, .inr (.inr rfl)⟩ | refine ⟨_, _, rfl, rfl, ?_⟩ | exact ⟨_, rfl, rfl⟩ | exact ⟨_, _, _, _, rfl, rfl, rfl⟩ | exact ⟨_, rfl⟩ | exact ⟨_, _, rfl⟩ | apply And.intro))) (by (repeat' (first | exact trivial | rfl | exact listLe_map _ | exact ⟨_, rfl, .inl rfl⟩ | exact ⟨_, rfl, .inr (.inl rfl)⟩ | exact ⟨_, rfl, .inr (.inr rfl)⟩ | refine ⟨_, _, rfl, rfl, ?_⟩ | exact ⟨_, rfl, rfl⟩ | exact ⟨_, _, _, _, rfl, rfl, rfl⟩ | exact ⟨_, rfl⟩ | exact ⟨_, _, rfl⟩ | apply And.intro))))
theorem region_Ident (r : Region) (hr : r.right) : FnF Try.prog 19 [r.v] (.slice ((identR r).map byteV)) :=
  fnF_own (ds := [r.v]) (region_IdentG r hr) (by rw [List.length_map])
set_option maxHeartbeats 1000000 in
theorem ref3_IdentG (r : Region) (hr : r.right) : FnG Try.prog 20 [.dat false r.v] [] (.own 1000 0 0 (identR r).length) [(1000, .row 0 false true 1 ((identR r).map byteV))] := by
  refine fnG_of Try.func20 rfl rfl rfl ?_
  simp only [envD]
  have hD := ref3_Digest r hr
  have hdl := digestR_len r.ways
  have n2 := hr.n2
  have r0 := hr.r0
  have r1 := hr.r1
  obtain ⟨_, b1, _, b2⟩ := byte_hi hr.r0
  have hq : IntKind.i64.wrap (r.rev.tdiv 256) = r.rev / 256 := by rw [Int.tdiv_eq_ediv_of_nonneg r0, wrap_in]; simp only [InK]; omega
  have hm : r.rev.tmod 256 = r.rev % 256 := Int.tmod_eq_emod_of_nonneg r0
  repeat' (first
    | (apply dt rfl; case h => exact S_str_bytesO (l := r.name) _ Try.underlying5 Try.underlying9 rfl (by omega) rfl)
    | refine DW_seq ?_
    | refine DW_region ?_
    | refine DW_draw ?_
    | refine dnilP ?_
    | refine dnilD (by kernel_rfl) ?_
    | refine then_normal ?_
    | refine then_exit ?_
    | refine then_ret ?_
    | refine DW_block ?_
    | refine blk_normal ?_
    | refine blk_ret ?_
    | refine blk_hit rfl ?_
    | refine blk_miss rfl ?_
    | refine loop_exit ?_
    | refine loop_ret ?_
    | refine DW_ret ?_
    | refine DW_exit ?_
    | refine DW_skip ?_
    | refine DW_cond_t rfl ?_
    | refine DW_cond_f rfl ?_
    | (apply dpC rfl; case h => first | (apply Pu.ok; repeat' (first | rfl | exact .inK (by simp only [InK]; omega) | exact .inK (by simp only [InK]; simp at hg; omega) | exact .wr | constructor | decide | omega)))
    | refine dpOff rfl rfl ?_
    | ((first | apply dp rfl | apply dpOn rfl rfl | apply dpMay rfl rfl (by first | exact fun _ => trivial | exact fun h => ⟨h, trivial⟩ | exact fun h => ⟨h, h, trivial⟩ | exact fun h => ⟨h, h, h, trivial⟩)); case h => ((try intro hg); first | (apply Pu.ok; repeat' (first | rfl | exact .inK (by simp only [InK]; omega) | exact .inK (by simp only [InK]; simp at hg; omega) | exact .wr | constructor | decide | omega))))
    | refine dpickAnd rfl rfl rfl rfl rfl ?_ | refine dpickOr rfl rfl rfl rfl rfl ?_
    | (apply dt rfl; case h => first | exact S_alloc _ rfl | exact S_box _ rfl rfl)
    | (apply ds; case h => first | exact S_store rfl rfl rfl rfl rfl rfl)
    | (apply dm rfl; case h => first | exact M_d rfl | exact S_alloc 2001 rfl | exact S_alloc 2002 rfl | exact S_alloc 2003 rfl | exact S_alloc 2004 rfl | exact S_alloc 2005 rfl)
    | fail)
  refine DW_loop (fun p : Nat × List UInt8 => ⟨[(1, .ptr 1 0), (3, .own 6 0 0 p.2.length)], [(1, .cells false true (r.cells.map (.dat false))), (6, .row 0 false true 1 (p.2.map byteV))], 28⟩)
    (fun p => p.1 ≤ 32 - r.name.length ∧ p.2 = r.name ++ List.replicate p.1 0) (fun p => 32 - p.1) (0, r.name) ⟨Nat.zero_le _, by simp⟩
    (Wk_gen some rfl rfl (by (repeat' (first | exact trivial | rfl | exact listLe_map _ | exact ⟨_, rfl, .inl rfl⟩ | exact ⟨_, rfl, .inr (.inl rfl)⟩ | exact ⟨_, rfl, .inr (.inr rfl)⟩ | refine ⟨_, _, rfl, rfl, ?_⟩ | exact ⟨_, rfl, rfl⟩ | exact ⟨_, _, _, _, rfl, rfl, rfl⟩ | exact ⟨_, rfl⟩ | exact ⟨_, _, rfl⟩ | apply And.intro))) (by (repeat' (first | exact trivial | rfl | exact listLe_map _ | exact ⟨_, rfl, .inl rfl⟩ | exact ⟨_, rfl, .inr (.inl rfl)⟩ | exact ⟨_, rfl, .inr (.inr rfl)⟩ | refine ⟨_, _, rfl, rfl, ?_⟩ | exact ⟨_, rfl, rfl⟩ | exact ⟨_, _, _, _, rfl, rfl, rfl⟩ | exact ⟨_, rfl⟩ | exact ⟨_, _, rfl⟩ | apply And.intro)))) (fun p hR => ?_)
  obtain ⟨z, m⟩ := p
  obtain ⟨hz, hm'⟩ := hR
  simp only at hz hm'
  dsimp only
  have hml : m.length = r.name.length + z := by rw [hm']; simp
  by_cases hlt : m.length < 32
  · repeat' (first
    | refine DW_seq ?_
    | refine DW_region ?_
    | refine DW_draw ?_
    | refine dnilP ?_
    | refine dnilD (by kernel_rfl) ?_
    | refine then_normal ?_
    | refine then_exit ?_
    | refine then_ret ?_
    | refine DW_block ?_
    | refine blk_normal ?_
    | refine blk_ret ?_
    | refine blk_hit rfl ?_
    | refine blk_miss rfl ?_
    | refine loop_exit ?_
    | refine loop_ret ?_
    | refine DW_ret ?_
    | refine DW_exit ?_
    | refine DW_skip ?_
    | refine DW_cond_t rfl ?_
    | refine DW_cond_f rfl ?_
    | (apply dpC rfl; case h => first | (apply Pu.ok; repeat' (first | rfl | exact .inK (by simp only [InK]; omega) | exact .inK (by simp only [InK]; simp at hg; omega) | exact .wr | constructor | decide | omega)))
    | (apply dmC rfl; case h => first | exact S_appM (f := byteV) (us := m) (bs := [0]) rfl rfl (.dat _ _) rfl rfl (.inr ⟨rfl, inferInstance⟩) rfl (by simp only [List.length_cons, List.length_nil]; omega))
    | refine dpOff rfl rfl ?_
    | (apply dmOn rfl rfl; case h => first | exact S_appM (f := byteV) (us := m) (bs := [0]) rfl rfl (.dat _ _) rfl rfl (.inr ⟨rfl, inferInstance⟩) rfl (by simp only [List.length_cons, List.length_nil]; omega))
    | ((first | apply dp rfl | apply dpOn rfl rfl | apply dpMay rfl rfl (by first | exact fun _ => trivial | exact fun h => ⟨h, trivial⟩ | exact fun h => ⟨h, h, trivial⟩ | exact fun h => ⟨h, h, h, trivial⟩)); case h => ((try intro hg); first | exact as_bool (S_lss rfl rfl) (decide_eq_true (by omega : (m.length : Int) < 32)) | exact S_appM (f := byteV) (us := m) (bs := [0]) rfl rfl (.dat _ _) rfl rfl (.inr ⟨rfl, inferInstance⟩) rfl (by simp only [List.length_cons, List.length_nil]; omega) | (apply Pu.ok; repeat' (first | rfl | exact .inK (by simp only [InK]; omega) | exact .inK (by simp only [InK]; simp at hg; omega) | exact .wr | constructor | decide | omega))))
    | refine dpickAnd rfl rfl rfl rfl rfl ?_ | refine dpickOr rfl rfl rfl rfl rfl ?_
    | (apply dt rfl; case h => first | exact S_alloc _ rfl | exact S_box _ rfl rfl)
    | (apply ds; case h => first | exact S_store rfl rfl rfl rfl rfl rfl)
    | (apply dm rfl; case h => first | exact M_d rfl | exact S_alloc 2001 rfl | exact S_alloc 2002 rfl | exact S_alloc 2003 rfl | exact S_alloc 2004 rfl | exact S_alloc 2005 rfl)
    | fail)
    refine loop_again (z + 1, m ++ [0]) ⟨by simp only; omega, ?_⟩ (by simp only; omega) (Wk_gen some rfl rfl (by (repeat' (first | exact trivial | rfl | exact listLe_map _ | exact ⟨_, rfl, .inl rfl⟩ | exact ⟨_, rfl, .inr (.inl rfl)⟩ | exact ⟨_, rfl, .inr (.inr rfl)⟩ | refine ⟨_, _, rfl, rfl, ?_⟩ | exact ⟨_, rfl, rfl⟩ | exact ⟨_, _, _, _, rfl, rfl, rfl⟩ | exact ⟨_, rfl⟩ | exact ⟨_, _, rfl⟩ | apply And.intro))) (by (repeat' (first | exact trivial | rfl | exact listLe_map _ | exact ⟨_, rfl, .inl rfl⟩ | exact ⟨_, rfl, .inr (.inl rfl)⟩ | exact ⟨_, rfl, .inr (.inr rfl)⟩ | refine ⟨_, _, rfl, rfl, ?_⟩ | exact ⟨_, rfl, rfl⟩ | exact ⟨_, _, _, _, rfl, rfl, rfl⟩ | exact ⟨_, rfl⟩ | exact ⟨_, _, rfl⟩ | apply And.intro))))
    simp only
    rw [hm', List.replicate_succ', ← List.append_assoc]
  · have hze : z = 32 - r.name.length := by omega
    subst hze
    have hid : identR r = m ++ [byteAt r.rev 1, byteAt r.rev 0] ++ digestR r.ways := by unfold identR; rw [hm']
    rw [hid]
    repeat' (first
    | refine DW_seq ?_
    | refine DW_region ?_
    | refine DW_draw ?_
    | refine dnilP ?_
    | refine dnilD (by kernel_rfl) ?_
    | refine then_normal ?_
    | refine then_exit ?_
    | refine then_ret ?_
    | refine DW_block ?_
    | refine blk_normal ?_
    | refine blk_ret ?_
    | refine blk_hit rfl ?_
    | refine blk_miss rfl ?_
    | refine loop_exit ?_
    | refine loop_ret ?_
    | refine DW_ret ?_
    | refine DW_exit ?_
    | refine DW_skip ?_
    | refine DW_cond_t rfl ?_
    | refine DW_cond_f rfl ?_
    | (apply dpC rfl; case h => first | exact S_call hD rfl | (apply Pu.ok; repeat' (first | rfl | exact .inK (by simp only [InK]; omega) | exact .inK (by simp only [InK]; simp at hg; omega) | exact .wr | constructor | decide | omega)))
    | (apply dmC rfl; case h => first | exact S_appM (f := byteV) (us := m) (bs := [byteAt r.rev 1, byteAt r.rev 0]) rfl rfl (.dat _ _) rfl rfl (.inr ⟨rfl, inferInstance⟩) rfl (by simp only [List.length_cons, List.length_nil]; omega) | exact S_appM (f := byteV) (us := m ++ [byteAt r.rev 1, byteAt r.rev 0]) (bs := digestR r.ways) rfl rfl (.dat _ _) rfl rfl (.inr ⟨rfl, inferInstance⟩) rfl (by simp only [List.length_append, List.length_cons, List.length_nil]; omega))
    | refine dpOff rfl rfl ?_
    | (apply dmOn rfl rfl; case h => first | exact S_appM (f := byteV) (us := m) (bs := [byteAt r.rev 1, byteAt r.rev 0]) rfl rfl (.dat _ _) rfl rfl (.inr ⟨rfl, inferInstance⟩) rfl (by simp only [List.length_cons, List.length_nil]; omega) | exact S_appM (f := byteV) (us := m ++ [byteAt r.rev 1, byteAt r.rev 0]) (bs := digestR r.ways) rfl rfl (.dat _ _) rfl rfl (.inr ⟨rfl, inferInstance⟩) rfl (by simp only [List.length_append, List.length_cons, List.length_nil]; omega))
    | ((first | apply dp rfl | apply dpOn rfl rfl | apply dpMay rfl rfl (by first | exact fun _ => trivial | exact fun h => ⟨h, trivial⟩ | exact fun h => ⟨h, h, trivial⟩ | exact fun h => ⟨h, h, h, trivial⟩)); case h => ((try intro hg); first | exact as_bool (S_lss rfl rfl) (decide_eq_false (by omega : ¬ (m.length : Int) < 32)) | exact as_int (S_quo rfl rfl (by decide)) hq | exact as_int (S_rem rfl rfl (by decide)) hm | exact C_toInt rfl b1 | exact C_toInt rfl b2 | exact S_call hD rfl | exact S_appM (f := byteV) (us := m) (bs := [byteAt r.rev 1, byteAt r.rev 0]) rfl rfl (.dat _ _) rfl rfl (.inr ⟨rfl, inferInstance⟩) rfl (by simp only [List.length_cons, List.length_nil]; omega) | exact S_appM (f := byteV) (us := m ++ [byteAt r.rev 1, byteAt r.rev 0]) (bs := digestR r.ways) rfl rfl (.dat _ _) rfl rfl (.inr ⟨rfl, inferInstance⟩) rfl (by simp only [List.length_append, List.length_cons, List.length_nil]; omega) | (apply Pu.ok; repeat' (first | rfl | exact .inK (by simp only [InK]; omega) | exact .inK (by simp only [InK]; simp at hg; omega) | exact .wr | constructor | decide | omega))))
    | refine dpickAnd rfl rfl rfl rfl rfl ?_ | refine dpickOr rfl rfl rfl rfl rfl ?_
    | (apply dt rfl; case h => first | exact C_toInt rfl b1 | exact C_toInt rfl b2 | exact S_alloc _ rfl | exact S_box _ rfl rfl)
    | (apply ds; case h => first | exact C_toInt rfl b1 | exact C_toInt rfl b2 | exact S_store rfl rfl rfl rfl rfl rfl)
    | (apply dm rfl; case h => first | exact C_toInt rfl b1 | exact C_toInt rfl b2 | exact M_d rfl | exact S_alloc 2001 rfl | exact S_alloc 2002 rfl | exact S_alloc 2003 rfl | exact S_alloc 2004 rfl | exact S_alloc 2005 rfl)
    | fail)
    exact gOwn (Wk_gen (fun g => if g = 1000 then some 6 else none) rfl rfl (by (repeat' (first | exact trivial | rfl | exact listLe_map _ | exact ⟨_, rfl, .inl rfl⟩ | exact ⟨_, rfl, .inr (.inl rfl)⟩ | exact ⟨_, rfl, .inr (.inr rfl)⟩ | refine ⟨_, _, rfl, rfl, ?_⟩ | exact ⟨_, rfl, rfl⟩ | exact ⟨_, _, _, _, rfl, rfl, rfl⟩ | exact ⟨_, rfl⟩ | exact ⟨_, _, rfl⟩ | apply And.intro))) (by (repeat' (first | exact trivial | rfl | exact listLe_map _ | exact ⟨_, rfl, .inl rfl⟩ | exact ⟨_, rfl, .inr (.inl rfl)⟩ | exact ⟨_, rfl, .inr (.inr rfl)⟩ | refine ⟨_, _, rfl, rfl, ?_⟩ | exact ⟨_, rfl, rfl⟩ | exact ⟨_, _, _, _, rfl, rfl, rfl⟩ | exact ⟨_, rfl⟩ | exact ⟨_, _, rfl⟩ | apply And.intro))))
theorem ref3_Ident (r : Region) (hr : r.right) : FnF Try.prog 20 [r.v] (.slice ((identR r).map byteV)) :=
  fnF_own (ds := [r.v]) (ref3_IdentG r hr) (by rw [List.length_map])
theorem region_Same (a b : Region) (ha : a.right) (hb : b.right) : FnF Try.prog 21 [a.v, b.v] (.bool (decide (identR a = identR b))) := by
  refine fnF_of Try.func21 rfl rfl rfl ?_
  simp only [envOf]
  repeat' (first
    | refine DW_seq ?_
    | refine DW_region ?_
    | refine DW_draw ?_
    | refine dnilP ?_
    | refine dnilD (by kernel_rfl) ?_
    | refine then_normal ?_
    | refine then_exit ?_
    | refine then_ret ?_
    | refine DW_block ?_
    | refine blk_normal ?_
    | refine blk_ret ?_
    | refine blk_hit rfl ?_
    | refine blk_miss rfl ?_
    | refine loop_exit ?_
    | refine loop_ret ?_
    | refine DW_ret ?_
    | refine DW_exit ?_
    | refine DW_skip ?_
    | refine DW_cond_t rfl ?_
    | refine DW_cond_f rfl ?_
    | (apply dpC rfl; case h => first | exact S_call (region_Ident a ha) rfl | exact S_call (region_Ident b hb) rfl | exact S_call (bytes_Equal (identR a) (identR b)) rfl | (apply Pu.ok; repeat' (first | rfl | exact .inK (by simp only [InK]; omega) | exact .inK (by simp only [InK]; simp at hg; omega) | exact .wr | constructor | decide | omega)))
    | refine dpOff rfl rfl ?_
    | ((first | apply dp rfl | apply dpOn rfl rfl | apply dpMay rfl rfl (by first | exact fun _ => trivial | exact fun h => ⟨h, trivial⟩ | exact fun h => ⟨h, h, trivial⟩ | exact fun h => ⟨h, h, h, trivial⟩)); case h => ((try intro hg); first | exact S_call (region_Ident a ha) rfl | exact S_call (region_Ident b hb) rfl | exact S_call (bytes_Equal (identR a) (identR b)) rfl | (apply Pu.ok; repeat' (first | rfl | exact .inK (by simp only [InK]; omega) | exact .inK (by simp only [InK]; simp at hg; omega) | exact .wr | constructor | decide | omega))))
    | refine dpickAnd rfl rfl rfl rfl rfl ?_ | refine dpickOr rfl rfl rfl rfl rfl ?_
    | (apply dt rfl; case h => first | exact S_alloc _ rfl | exact S_box _ rfl rfl)
    | (apply ds; case h => first | exact S_store rfl rfl rfl rfl rfl rfl)
    | (apply dm rfl; case h => first | exact M_d rfl | exact S_alloc 2001 rfl | exact S_alloc 2002 rfl | exact S_alloc 2003 rfl | exact S_alloc 2004 rfl | exact S_alloc 2005 rfl)
    | fail)
  exact ret1 rfl (.inl rfl) rfl
end Go.Proofs.Ytppficphaidoaaa
