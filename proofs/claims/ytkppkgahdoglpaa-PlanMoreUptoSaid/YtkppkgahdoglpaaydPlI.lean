/- Contracts: Ident (plan's and the document's), Regions, offers. -/
import Derived.Test.YtkppkgahdoglpaaydReg
import Derived.Test.YtkppkgahdoglpaaydRgd
import Derived.Test.YtkppkgahdoglpaaycMd5
namespace Go.Proofs.Ytkppkgahdoglpaa
open Go.RowKit
attribute [local irreducible] SStep DW DWin DOps thenQ inBlk loopQ retQ retQG FnF FnG Wk IntKind.wrap IntKind.andI IntKind.orI IntKind.xorI IntKind.andNotI IntKind.shlI IntKind.shrI macS digestR
theorem region_IdentG (r : Region) (hr : r.right) : FnG Try.prog 59 [.dat false r.v] [] (.own 1000 0 0 (identR r).length) [(1000, .row 0 false true 1 ((identR r).map byteV))] := by
  refine fnG_of Try.func59 rfl rfl rfl ?_
  simp only [envD]
  have hD := region_Digest r hr
  have hdl := digestR_len r.ways
  have n2 := hr.n2
  obtain ⟨b1, _, b2, _⟩ := byte_hi hr.r0
  have hcp : r.name.take 32 ++ (List.replicate 32 0).drop r.name.length = r.name ++ List.replicate (32 - r.name.length) 0 := by
    rw [List.take_of_length_le n2, List.drop_replicate]
  repeat' (first
    | (apply dt rfl; case h => exact S_mkM (f := byteV) (l := 32) (c := 50) (0 : UInt8) _ rfl rfl rfl rfl (by decide) (by decide) rfl rfl)
    | (apply Stp.go; case a => constructor)
    | refine blk_hit rfl ?_ | refine blk_miss rfl ?_ | refine dnilD (by kernel_rfl) ?_ | refine DW_cond_t rfl ?_ | refine DW_cond_f rfl ?_
    | refine dpOff rfl rfl ?_
    | ((first | apply dX rfl | apply dXon rfl rfl | apply dpMay rfl rfl (by intro h; first | trivial | exact ⟨h, trivial⟩ | exact ⟨h, h, trivial⟩ | exact ⟨h, h, h, trivial⟩)); (case h => ((try intro hg); first | exact S_copyS (us := List.replicate 32 0) (bs := r.name) rfl rfl rfl rfl | exact C_toInt rfl b1 | exact C_toInt rfl b2 | exact S_shr rfl rfl (by decide) | exact S_call hD rfl | exact S_appM (f := byteV) (us := r.name.take 32 ++ (List.replicate 32 0).drop r.name.length) (bs := [byteAt r.rev 1, byteAt r.rev 0]) rfl rfl (.dat _ _) rfl (by rw [hcp]; simp; omega) (.inr ⟨rfl, inferInstance⟩) rfl (by rw [hcp]; simp; omega) | exact S_appM (f := byteV) (bs := digestR r.ways) rfl rfl (.dat _ _) rfl rfl (.inr ⟨rfl, inferInstance⟩) rfl (by rw [hcp]; simp; omega) | exact S_al rfl | exact S_bx rfl rfl | exact S_store rfl rfl rfl rfl rfl rfl | (apply Pu.ok; repeat' (first | rfl | exact .inK (by simp only [InK]; omega) | exact .inK (by simp only [InK]; simp at hg; omega) | exact .wr | constructor | decide | omega)))); (try case hp => constructor))
    | refine dpickAnd rfl rfl rfl rfl rfl ?_ | refine dpickOr rfl rfl rfl rfl rfl ?_
    | fail)
  rw [hcp]
  exact gOwn (Wk_g (fun g => if g = 1000 then some 4 else none) rfl rfl (by (repeat' (first | exact trivial | rfl | exact listLe_map _ | exact ⟨_, rfl, .inl rfl⟩ | exact ⟨_, rfl, .inr (.inl rfl)⟩ | exact ⟨_, rfl, .inr (.inr rfl)⟩ | refine ⟨_, _, rfl, rfl, ?_⟩ | exact ⟨_, rfl, rfl⟩ | exact ⟨_, _, _, _, rfl, rfl, rfl⟩ | exact ⟨_, rfl⟩ | exact ⟨_, _, rfl⟩ | apply And.intro))))
theorem region_Ident (r : Region) (hr : r.right) : FnF Try.prog 59 [r.v] (.slice ((identR r).map byteV)) :=
  fnF_own (ds := [r.v]) (region_IdentG r hr) (by rw [List.length_map])
set_option maxHeartbeats 1000000 in
theorem ref3_IdentG (r : Region) (hr : r.right) : FnG Try.prog 48 [.dat false r.v] [] (.own 1000 0 0 (identR r).length) [(1000, .row 0 false true 1 ((identR r).map byteV))] := by
  refine fnG_of Try.func48 rfl rfl rfl ?_
  simp only [envD]
  have hD := ref3_Digest r hr
  have hdl := digestR_len r.ways
  have n2 := hr.n2
  have r0 := hr.r0
  have r1 := hr.r1
  obtain ⟨_, b1, _, b2⟩ := byte_hi hr.r0
  have hq : IntKind.i64.wrap (r.rev.tdiv 256) = r.rev / 256 := by rw [Int.tdiv_eq_ediv_of_nonneg r0, wrap_in]; simp only [InK]; omega
  have hm : r.rev.tmod 256 = r.rev % 256 := Int.tmod_eq_emod_of_nonneg r0
  repeat' (first
    | (apply dt rfl; case h => exact S_str_bytesO (l := r.name) _ Try.underlying5 Try.underlying9 rfl (by omega) rfl)
    | (apply Stp.go; case a => constructor)
    | refine blk_hit rfl ?_ | refine blk_miss rfl ?_ | refine dnilD (by kernel_rfl) ?_ | refine DW_cond_t rfl ?_ | refine DW_cond_f rfl ?_
    | refine dpOff rfl rfl ?_
    | ((first | apply dX rfl | apply dXon rfl rfl | apply dpMay rfl rfl (by intro h; first | trivial | exact ⟨h, trivial⟩ | exact ⟨h, h, trivial⟩ | exact ⟨h, h, h, trivial⟩)); (case h => ((try intro hg); first | exact S_al rfl | exact S_bx rfl rfl | exact S_store rfl rfl rfl rfl rfl rfl | (apply Pu.ok; repeat' (first | rfl | exact .inK (by simp only [InK]; omega) | exact .inK (by simp only [InK]; simp at hg; omega) | exact .wr | constructor | decide | omega)))); (try case hp => constructor))
    | refine dpickAnd rfl rfl rfl rfl rfl ?_ | refine dpickOr rfl rfl rfl rfl rfl ?_
    | fail)
  refine DW_loop (fun p : Nat × List UInt8 => ⟨[(1, .ptr 1 0), (3, .own 6 0 0 p.2.length)], [(1, .cells false true (r.cells.map (.dat false))), (6, .row 0 false true 1 (p.2.map byteV))], 28⟩)
    (fun p => p.1 ≤ 32 - r.name.length ∧ p.2 = r.name ++ List.replicate p.1 0) (fun p => 32 - p.1) (0, r.name) ⟨Nat.zero_le _, by simp⟩
    (Wk_g some rfl rfl (by (repeat' (first | exact trivial | rfl | exact listLe_map _ | exact ⟨_, rfl, .inl rfl⟩ | exact ⟨_, rfl, .inr (.inl rfl)⟩ | exact ⟨_, rfl, .inr (.inr rfl)⟩ | refine ⟨_, _, rfl, rfl, ?_⟩ | exact ⟨_, rfl, rfl⟩ | exact ⟨_, _, _, _, rfl, rfl, rfl⟩ | exact ⟨_, rfl⟩ | exact ⟨_, _, rfl⟩ | apply And.intro)))) (fun p hR => ?_)
  obtain ⟨z, m⟩ := p
  obtain ⟨hz, hm'⟩ := hR
  simp only at hz hm'
  dsimp only
  have hml : m.length = r.name.length + z := by rw [hm']; simp
  by_cases hlt : m.length < 32
  · repeat' (first
    | (apply Stp.go; case a => constructor)
    | refine blk_hit rfl ?_ | refine blk_miss rfl ?_ | refine dnilD (by kernel_rfl) ?_ | refine DW_cond_t rfl ?_ | refine DW_cond_f rfl ?_
    | refine dpOff rfl rfl ?_
    | ((first | apply dX rfl | apply dXon rfl rfl | apply dpMay rfl rfl (by intro h; first | trivial | exact ⟨h, trivial⟩ | exact ⟨h, h, trivial⟩ | exact ⟨h, h, h, trivial⟩)); (case h => ((try intro hg); first | exact as_bool (S_lss rfl rfl) (decide_eq_true (by omega : (m.length : Int) < 32)) | exact S_appM (f := byteV) (us := m) (bs := [0]) rfl rfl (.dat _ _) rfl rfl (.inr ⟨rfl, inferInstance⟩) rfl (by simp only [List.length_cons, List.length_nil]; omega) | exact S_al rfl | exact S_bx rfl rfl | exact S_store rfl rfl rfl rfl rfl rfl | (apply Pu.ok; repeat' (first | rfl | exact .inK (by simp only [InK]; omega) | exact .inK (by simp only [InK]; simp at hg; omega) | exact .wr | constructor | decide | omega)))); (try case hp => constructor))
    | refine dpickAnd rfl rfl rfl rfl rfl ?_ | refine dpickOr rfl rfl rfl rfl rfl ?_
    | fail)
    refine loop_again (z + 1, m ++ [0]) ⟨by simp only; omega, ?_⟩ (by simp only; omega) (Wk_g some rfl rfl (by (repeat' (first | exact trivial | rfl | exact listLe_map _ | exact ⟨_, rfl, .inl rfl⟩ | exact ⟨_, rfl, .inr (.inl rfl)⟩ | exact ⟨_, rfl, .inr (.inr rfl)⟩ | refine ⟨_, _, rfl, rfl, ?_⟩ | exact ⟨_, rfl, rfl⟩ | exact ⟨_, _, _, _, rfl, rfl, rfl⟩ | exact ⟨_, rfl⟩ | exact ⟨_, _, rfl⟩ | apply And.intro))))
    simp only
    rw [hm', List.replicate_succ', ← List.append_assoc]
  · have hze : z = 32 - r.name.length := by omega
    subst hze
    have hid : identR r = m ++ [byteAt r.rev 1, byteAt r.rev 0] ++ digestR r.ways := by unfold identR; rw [hm']
    rw [hid]
    repeat' (first
    | (apply Stp.go; case a => constructor)
    | refine blk_hit rfl ?_ | refine blk_miss rfl ?_ | refine dnilD (by kernel_rfl) ?_ | refine DW_cond_t rfl ?_ | refine DW_cond_f rfl ?_
    | refine dpOff rfl rfl ?_
    | ((first | apply dX rfl | apply dXon rfl rfl | apply dpMay rfl rfl (by intro h; first | trivial | exact ⟨h, trivial⟩ | exact ⟨h, h, trivial⟩ | exact ⟨h, h, h, trivial⟩)); (case h => ((try intro hg); first | exact as_bool (S_lss rfl rfl) (decide_eq_false (by omega : ¬ (m.length : Int) < 32)) | exact as_int (S_quo rfl rfl (by decide)) hq | exact as_int (S_rem rfl rfl (by decide)) hm | exact C_toInt rfl b1 | exact C_toInt rfl b2 | exact S_call hD rfl | exact S_appM (f := byteV) (us := m) (bs := [byteAt r.rev 1, byteAt r.rev 0]) rfl rfl (.dat _ _) rfl rfl (.inr ⟨rfl, inferInstance⟩) rfl (by simp only [List.length_cons, List.length_nil]; omega) | exact S_appM (f := byteV) (us := m ++ [byteAt r.rev 1, byteAt r.rev 0]) (bs := digestR r.ways) rfl rfl (.dat _ _) rfl rfl (.inr ⟨rfl, inferInstance⟩) rfl (by simp only [List.length_append, List.length_cons, List.length_nil]; omega) | exact S_al rfl | exact S_bx rfl rfl | exact S_store rfl rfl rfl rfl rfl rfl | (apply Pu.ok; repeat' (first | rfl | exact .inK (by simp only [InK]; omega) | exact .inK (by simp only [InK]; simp at hg; omega) | exact .wr | constructor | decide | omega)))); (try case hp => constructor))
    | refine dpickAnd rfl rfl rfl rfl rfl ?_ | refine dpickOr rfl rfl rfl rfl rfl ?_
    | fail)
    exact gOwn (Wk_g (fun g => if g = 1000 then some 6 else none) rfl rfl (by (repeat' (first | exact trivial | rfl | exact listLe_map _ | exact ⟨_, rfl, .inl rfl⟩ | exact ⟨_, rfl, .inr (.inl rfl)⟩ | exact ⟨_, rfl, .inr (.inr rfl)⟩ | refine ⟨_, _, rfl, rfl, ?_⟩ | exact ⟨_, rfl, rfl⟩ | exact ⟨_, _, _, _, rfl, rfl, rfl⟩ | exact ⟨_, rfl⟩ | exact ⟨_, _, rfl⟩ | apply And.intro))))
theorem ref3_Ident (r : Region) (hr : r.right) : FnF Try.prog 48 [r.v] (.slice ((identR r).map byteV)) :=
  fnF_own (ds := [r.v]) (ref3_IdentG r hr) (by rw [List.length_map])
end Go.Proofs.Ytkppkgahdoglpaa
namespace Go.Proofs.Ytkppkgahdoglpaa
open Go.RowKit
structure Bridge.ok (b : Bridge) : Prop where
  a0 : 0 ≤ b.addr
  a1 : b.addr ≤ 281474976710655
  n : b.prios.length ≤ 16
  p : ∀ p ∈ b.prios, ¬ prioBad p
  r : b.region.right
def Bridge.prio (b : Bridge) (t : Int) : Int := if 0 ≤ t then (b.prios[t.toNat]?).getD 32768 else 32768
def Bridge.id (b : Bridge) (t : Int) : Int := b.prio t * 281474976710656 + b.addr
theorem Bridge.prio_in {b : Bridge} (h : b.ok) (t : Int) : 0 ≤ b.prio t ∧ b.prio t ≤ 61440 := by
  unfold Bridge.prio
  split
  · cases hx : b.prios[t.toNat]? with
    | none => simp
    | some p =>
      have := h.p p (List.mem_of_getElem? hx)
      unfold prioBad at this
      rw [Option.getD_some]; omega
  · omega
theorem shl_48 {a : Int} (h : 0 ≤ a) (h2 : a ≤ 61440) : IntKind.u64.shlI a 48 = a * 281474976710656 := by
  unfold IntKind.shlI
  have e : (2 : Int) ^ (min (48 : Int).toNat IntKind.u64.bits) = 281474976710656 := by decide
  rw [e, wrap_u64]; omega
theorem or_48 {p v : Int} (h : 0 ≤ p) (h2 : p ≤ 61440) (k : 0 ≤ v) (k2 : v ≤ 281474976710655) : IntKind.u64.orI (p * 281474976710656) v = p * 281474976710656 + v := by
  unfold IntKind.orI
  have hb : IntKind.u64.bits = 64 := rfl
  rw [hb]
  have e1 : (BitVec.ofInt 64 (p * 281474976710656)).toNat = (p * 281474976710656).toNat := by
    rw [BitVec.toNat_ofInt]; omega
  have e2 : (BitVec.ofInt 64 v).toNat = v.toNat := by
    rw [BitVec.toNat_ofInt]; omega
  rw [BitVec.toNat_or, e1, e2]
  have e : (p * 281474976710656).toNat = p.toNat <<< 48 := by rw [Nat.shiftLeft_eq]; omega
  rw [e, ← Nat.shiftLeft_add_eq_or_of_lt (by omega : v.toNat < 2 ^ 48), Nat.shiftLeft_eq, wrap_u64]
  omega
structure End where
  port : Int
  cost : Int
  other : Int
  oport : Int
def endV (e : End) : List V := [.int .i64 e.port, .int .i64 e.cost, .int .i64 e.other, .int .i64 e.oport]
instance : CellsI endV 4 := ⟨fun _ => rfl, fun t d h => by
  simp only [endV, List.mem_cons, List.mem_nil_iff, or_false] at h
  rcases h with rfl | rfl | rfl | rfl <;> rfl⟩
instance : FlatI endV := ⟨fun t d h => by
  simp only [endV, List.mem_cons, List.mem_nil_iff, or_false] at h
  rcases h with rfl | rfl | rfl | rfl <;> exact .int _ _⟩
instance : CellsI Offer.cells 7 := ⟨fun _ => rfl, fun t d h => by
  simp only [Offer.cells, List.mem_cons, List.mem_nil_iff, or_false] at h
  rcases h with rfl | rfl | rfl | rfl | rfl | rfl | rfl <;> rfl⟩
instance : FlatI Offer.cells := ⟨fun t d h => by
  simp only [Offer.cells, List.mem_cons, List.mem_nil_iff, or_false] at h
  rcases h with rfl | rfl | rfl | rfl | rfl | rfl | rfl <;> exact .int _ _⟩
instance : CellsI Vec.cells 4 := ⟨fun _ => rfl, fun t d h => by
  simp only [Vec.cells, List.mem_cons, List.mem_nil_iff, or_false] at h
  rcases h with rfl | rfl | rfl | rfl <;> rfl⟩
instance : FlatI Vec.cells := ⟨fun t d h => by
  simp only [Vec.cells, List.mem_cons, List.mem_nil_iff, or_false] at h
  rcases h with rfl | rfl | rfl | rfl <;> exact .int _ _⟩
def offerOf (says : List Vec) (e : End) : Offer := ⟨e.port, e.cost, 0, { (says[e.other.toNat]?).getD .zero with port := e.oport }⟩
def offersOf (ends : List End) (says : List Vec) : List Offer := ends.map (offerOf says)
def idsR (bs : List Bridge) : List (List UInt8) := bs.map fun b => identR b.region
def bytesR (x : List UInt8) : List V := [.slice (x.map byteV)]
instance : CellsI bytesR 1 := ⟨fun _ => rfl, fun t d h => by
  simp only [bytesR, List.mem_cons, List.mem_nil_iff, or_false] at h
  subst h; rfl⟩
def endAt (i : Int) (l : Link) : List End := (if l.a = i then [⟨l.pa, l.cost, l.b, l.pb⟩] else []) ++ (if l.b = i then [⟨l.pb, l.cost, l.a, l.pa⟩] else [])
def portAt (i : Int) (l : Link) : List Int := (if l.a = i then [l.pa] else []) ++ (if l.b = i then [l.pb] else [])
def portsOf (ls : List Link) (i : Int) : List Int := (ls.flatMap (portAt i)).mergeSort fun x y => decide (x ≤ y)
end Go.Proofs.Ytkppkgahdoglpaa
namespace Go.Proofs.Ytkppkgahdoglpaa
open Go.RowKit
attribute [local irreducible] SStep DW DWin DOps thenQ inBlk loopQ retQ retQG FnF FnG Wk IntKind.wrap IntKind.andI IntKind.orI IntKind.xorI IntKind.andNotI IntKind.shlI IntKind.shrI Region.wrong Bridge.wrong Link.wrong Bridge.prio identR
theorem prio_at {b : Bridge} {t : Nat} {p : Int} (h : b.prios[t]? = some p) : b.prio (t : Int) = p := by
  unfold Bridge.prio; rw [if_pos (by omega), Int.toNat_natCast, h]; rfl
theorem prio_no {b : Bridge} {t : Int} (h : t < 0 ∨ b.prios.length ≤ t) : b.prio t = 32768 := by
  unfold Bridge.prio
  split
  · rw [List.getElem?_eq_none (by omega)]; rfl
  · rfl
set_option maxHeartbeats 1000000 in
theorem plan_Ident (b : Bridge) (hb : b.ok) (t : Int) : FnF Try.prog 17 [.agg (bridgeV b), .int .i64 t] (.int .u64 (b.id t)) := by
  refine fnF_of Try.func17 rfl rfl rfl ?_
  simp only [envOf]
  have hml : (b.prios.map intV1).length = b.prios.length := by simp
  obtain ⟨p0, p1⟩ := Bridge.prio_in hb t
  by_cases h0 : 0 ≤ t
  · obtain ⟨t, rfl⟩ : ∃ k : Nat, t = (k : Int) := ⟨t.toNat, by omega⟩
    by_cases h1 : t < b.prios.length
    · have hx : b.prios[((t : Nat) : Int).toNat]? = some b.prios[t] := by simp [h1]
      have hp := prio_at (b := b) (t := t) hx
      rw [← hp] at hx
      have e1 := shl_48 p0 p1
      have e2 := or_48 p0 p1 hb.a0 hb.a1
      unfold Bridge.id
      generalize b.prio (t : Int) = p at hx p0 p1 e1 e2
      repeat' (first
    | (apply Stp.go; case a => constructor)
    | refine blk_hit rfl ?_ | refine blk_miss rfl ?_ | refine dnilD (by kernel_rfl) ?_ | refine DW_cond_t rfl ?_ | refine DW_cond_f rfl ?_
    | refine dpOff rfl rfl ?_
    | ((first | apply dX rfl | apply dXon rfl rfl | apply dpMay rfl rfl (by intro h; first | trivial | exact ⟨h, trivial⟩ | exact ⟨h, h, trivial⟩ | exact ⟨h, h, h, trivial⟩)); (case h => ((try intro hg); first | exact as_bool (S_geq rfl rfl) (decide_eq_true (by omega : (0 : Int) ≤ (t : Int))) | exact as_bool (S_lss rfl rfl) (decide_eq_true (by omega : (t : Int) < ((b.prios.map intV1).length : Int))) | exact S_ixM rfl rfl (by omega) hx | exact I_toInt rfl (by simp only [InK]; omega) | exact as_int (S_shl rfl rfl (by decide)) e1 | exact as_int (S_or rfl rfl) e2 | exact S_al rfl | exact S_bx rfl rfl | exact S_store rfl rfl rfl rfl rfl rfl | (apply Pu.ok; repeat' (first | rfl | exact .inK (by simp only [InK]; omega) | exact .inK (by simp only [InK]; simp at hg; omega) | exact .wr | constructor | decide | omega)))); (try case hp => constructor))
    | refine dpickAnd rfl rfl rfl rfl rfl ?_ | refine dpickOr rfl rfl rfl rfl rfl ?_
    | fail)
      refine ret1 rfl (.inl rfl) ?_
      rfl
    · have hp := prio_no (b := b) (t := (t : Int)) (by omega)
      rw [hp] at p0 p1
      have e1 := shl_48 p0 p1
      have e2 := or_48 p0 p1 hb.a0 hb.a1
      unfold Bridge.id
      rw [hp]
      repeat' (first
    | (apply Stp.go; case a => constructor)
    | refine blk_hit rfl ?_ | refine blk_miss rfl ?_ | refine dnilD (by kernel_rfl) ?_ | refine DW_cond_t rfl ?_ | refine DW_cond_f rfl ?_
    | refine dpOff rfl rfl ?_
    | ((first | apply dX rfl | apply dXon rfl rfl | apply dpMay rfl rfl (by intro h; first | trivial | exact ⟨h, trivial⟩ | exact ⟨h, h, trivial⟩ | exact ⟨h, h, h, trivial⟩)); (case h => ((try intro hg); first | exact as_bool (S_geq rfl rfl) (decide_eq_true (by omega : (0 : Int) ≤ (t : Int))) | exact as_bool (S_lss rfl rfl) (decide_eq_false (by omega : ¬ (t : Int) < ((b.prios.map intV1).length : Int))) | exact I_toInt rfl (by simp only [InK]; omega) | exact as_int (S_shl rfl rfl (by decide)) e1 | exact as_int (S_or rfl rfl) e2 | exact S_al rfl | exact S_bx rfl rfl | exact S_store rfl rfl rfl rfl rfl rfl | (apply Pu.ok; repeat' (first | rfl | exact .inK (by simp only [InK]; omega) | exact .inK (by simp only [InK]; simp at hg; omega) | exact .wr | constructor | decide | omega)))); (try case hp => constructor))
    | refine dpickAnd rfl rfl rfl rfl rfl ?_ | refine dpickOr rfl rfl rfl rfl rfl ?_
    | fail)
      refine ret1 rfl (.inl rfl) ?_
      rfl
  · have hp := prio_no (b := b) (t := t) (by omega)
    rw [hp] at p0 p1
    have e1 := shl_48 p0 p1
    have e2 := or_48 p0 p1 hb.a0 hb.a1
    unfold Bridge.id
    rw [hp]
    repeat' (first
    | (apply Stp.go; case a => constructor)
    | refine blk_hit rfl ?_ | refine blk_miss rfl ?_ | refine dnilD (by kernel_rfl) ?_ | refine DW_cond_t rfl ?_ | refine DW_cond_f rfl ?_
    | refine dpOff rfl rfl ?_
    | ((first | apply dX rfl | apply dXon rfl rfl | apply dpMay rfl rfl (by intro h; first | trivial | exact ⟨h, trivial⟩ | exact ⟨h, h, trivial⟩ | exact ⟨h, h, h, trivial⟩)); (case h => ((try intro hg); first | exact as_bool (S_geq rfl rfl) (decide_eq_false h0) | exact I_toInt rfl (by simp only [InK]; omega) | exact as_int (S_shl rfl rfl (by decide)) e1 | exact as_int (S_or rfl rfl) e2 | exact S_al rfl | exact S_bx rfl rfl | exact S_store rfl rfl rfl rfl rfl rfl | (apply Pu.ok; repeat' (first | rfl | exact .inK (by simp only [InK]; omega) | exact .inK (by simp only [InK]; simp at hg; omega) | exact .wr | constructor | decide | omega)))); (try case hp => constructor))
    | refine dpickAnd rfl rfl rfl rfl rfl ?_ | refine dpickOr rfl rfl rfl rfl rfl ?_
    | fail)
    refine ret1 rfl (.inl rfl) ?_
    rfl
set_option maxHeartbeats 1000000 in
theorem plan_Regions (n : Net) (hb : ∀ b ∈ n.bridges, b.region.right) (hl : n.bridges.length ≤ 12) : FnF Try.prog 37 [.rp n.cells] (.slice ((idsR n.bridges).map bytesR)) := by
  refine fnF_of Try.func37 rfl rfl rfl ?_
  simp only [envOf]
  have hml : (n.bridges.map bridgeV).length = n.bridges.length := by simp
  repeat' (first
    | (apply Stp.go; case a => constructor)
    | refine blk_hit rfl ?_ | refine blk_miss rfl ?_ | refine dnilD (by kernel_rfl) ?_ | refine DW_cond_t rfl ?_ | refine DW_cond_f rfl ?_
    | refine dpOff rfl rfl ?_
    | ((first | apply dX rfl | apply dXon rfl rfl | apply dpMay rfl rfl (by intro h; first | trivial | exact ⟨h, trivial⟩ | exact ⟨h, h, trivial⟩ | exact ⟨h, h, h, trivial⟩)); (case h => ((try intro hg); first | exact S_al rfl | exact S_bx rfl rfl | exact S_store rfl rfl rfl rfl rfl rfl | (apply Pu.ok; repeat' (first | rfl | exact .inK (by simp only [InK]; omega) | exact .inK (by simp only [InK]; simp at hg; omega) | exact .wr | constructor | decide | omega)))); (try case hp => constructor))
    | refine dpickAnd rfl rfl rfl rfl rfl ?_ | refine dpickOr rfl rfl rfl rfl rfl ?_
    | fail)
  refine DW_loop (fun p : Nat × List (List UInt8) => ⟨[(3, .own 3 0 0 p.2.length), (9, .dat false (.slice (n.bridges.map bridgeV))), (10, .dat true (.int .i64 (n.bridges.map bridgeV).length)), (11, .dat true (.int .i64 p.1))], [(3, .row 0 false true 1 (p.2.map bytesR))], 23⟩)
    (fun p => p.1 ≤ n.bridges.length ∧ p.2 = (idsR n.bridges).take p.1) (fun p => n.bridges.length - p.1) (0, []) ⟨Nat.zero_le _, rfl⟩
    (Wk_g (fun g => if g = 3 then none else some g) rfl rfl (by (repeat' (first | exact trivial | rfl | exact listLe_map _ | exact ⟨_, rfl, .inl rfl⟩ | exact ⟨_, rfl, .inr (.inl rfl)⟩ | exact ⟨_, rfl, .inr (.inr rfl)⟩ | refine ⟨_, _, rfl, rfl, ?_⟩ | exact ⟨_, rfl, rfl⟩ | exact ⟨_, _, _, _, rfl, rfl, rfl⟩ | exact ⟨_, rfl⟩ | exact ⟨_, _, rfl⟩ | apply And.intro)))) (fun p hR => ?_)
  obtain ⟨k, us⟩ := p
  obtain ⟨hk, hus⟩ := hR
  simp only at hk hus
  dsimp only
  have hul : us.length = k := by rw [hus]; simp [idsR]; omega
  by_cases hlt : k < n.bridges.length
  · have hx : n.bridges[(k : Int).toNat]? = some n.bridges[k] := by simp [hlt]
    have hr := hb n.bridges[k] (List.getElem_mem hlt)
    have hnext : us ++ [identR n.bridges[k].region] = (idsR n.bridges).take (k + 1) := by
      rw [hus, List.take_add_one]; simp [idsR, hlt]
    generalize n.bridges[k] = b at hx hr hnext
    have hi := region_Ident b.region hr
    repeat' (first
    | (apply Stp.go; case a => constructor)
    | refine blk_hit rfl ?_ | refine blk_miss rfl ?_ | refine dnilD (by kernel_rfl) ?_ | refine DW_cond_t rfl ?_ | refine DW_cond_f rfl ?_
    | refine dpOff rfl rfl ?_
    | ((first | apply dX rfl | apply dXon rfl rfl | apply dpMay rfl rfl (by intro h; first | trivial | exact ⟨h, trivial⟩ | exact ⟨h, h, trivial⟩ | exact ⟨h, h, h, trivial⟩)); (case h => ((try intro hg); first | exact as_bool (S_lss rfl rfl) (decide_eq_true (by omega : (k : Int) < ((n.bridges.map bridgeV).length : Int))) | exact S_ixM rfl rfl (by omega) hx | exact S_call hi rfl | exact S_appM (f := bytesR) (us := us) (bs := [identR b.region]) rfl rfl (.dat _ _) rfl rfl (.inl rfl) rfl (by simp only [List.length_singleton]; omega) | exact S_al rfl | exact S_bx rfl rfl | exact S_store rfl rfl rfl rfl rfl rfl | (apply Pu.ok; repeat' (first | rfl | exact .inK (by simp only [InK]; omega) | exact .inK (by simp only [InK]; simp at hg; omega) | exact .wr | constructor | decide | omega)))); (try case hp => constructor))
    | refine dpickAnd rfl rfl rfl rfl rfl ?_ | refine dpickOr rfl rfl rfl rfl rfl ?_
    | fail)
    exact loop_again (k + 1, us ++ [identR b.region]) ⟨hlt, hnext⟩ (by simp only; omega) (Wk_g some rfl rfl (by (repeat' (first | exact trivial | rfl | exact listLe_map _ | exact ⟨_, rfl, .inl rfl⟩ | exact ⟨_, rfl, .inr (.inl rfl)⟩ | exact ⟨_, rfl, .inr (.inr rfl)⟩ | refine ⟨_, _, rfl, rfl, ?_⟩ | exact ⟨_, rfl, rfl⟩ | exact ⟨_, _, _, _, rfl, rfl, rfl⟩ | exact ⟨_, rfl⟩ | exact ⟨_, _, rfl⟩ | apply And.intro))))
  · have he : us = idsR n.bridges := by rw [hus]; exact List.take_of_length_le (by simp [idsR]; omega)
    refine DW_seal 3 rfl rfl (by simp) ?_
    repeat' (first
    | (apply Stp.go; case a => constructor)
    | refine blk_hit rfl ?_ | refine blk_miss rfl ?_ | refine dnilD (by kernel_rfl) ?_ | refine DW_cond_t rfl ?_ | refine DW_cond_f rfl ?_
    | refine dpOff rfl rfl ?_
    | ((first | apply dX rfl | apply dXon rfl rfl | apply dpMay rfl rfl (by intro h; first | trivial | exact ⟨h, trivial⟩ | exact ⟨h, h, trivial⟩ | exact ⟨h, h, h, trivial⟩)); (case h => ((try intro hg); first | exact as_bool (S_lss rfl rfl) (decide_eq_false (by omega : ¬ (k : Int) < ((n.bridges.map bridgeV).length : Int))) | exact S_al rfl | exact S_bx rfl rfl | exact S_store rfl rfl rfl rfl rfl rfl | (apply Pu.ok; repeat' (first | rfl | exact .inK (by simp only [InK]; omega) | exact .inK (by simp only [InK]; simp at hg; omega) | exact .wr | constructor | decide | omega)))); (try case hp => constructor))
    | refine dpickAnd rfl rfl rfl rfl rfl ?_ | refine dpickOr rfl rfl rfl rfl rfl ?_
    | fail)
    refine ret1 rfl (.inl rfl) ?_
    rw [← he]
set_option maxHeartbeats 1000000 in
theorem plan_offers (ends : List End) (says : List Vec) (hl : ends.length ≤ 1000) (ho : ∀ e ∈ ends, 0 ≤ e.other ∧ e.other < says.length) : FnF Try.prog 40 [.slice (ends.map endV), .slice (says.map Vec.cells)] (offers (offersOf ends says)) := by
  refine fnF_of Try.func40 rfl rfl rfl ?_
  simp only [envOf, offers]
  have hml : (ends.map endV).length = ends.length := by simp
  have hms : (says.map Vec.cells).length = says.length := by simp
  repeat' (first
    | (apply Stp.go; case a => constructor)
    | refine blk_hit rfl ?_ | refine blk_miss rfl ?_ | refine dnilD (by kernel_rfl) ?_ | refine DW_cond_t rfl ?_ | refine DW_cond_f rfl ?_
    | refine dpOff rfl rfl ?_
    | ((first | apply dX rfl | apply dXon rfl rfl | apply dpMay rfl rfl (by intro h; first | trivial | exact ⟨h, trivial⟩ | exact ⟨h, h, trivial⟩ | exact ⟨h, h, h, trivial⟩)); (case h => ((try intro hg); first | exact S_al rfl | exact S_bx rfl rfl | exact S_store rfl rfl rfl rfl rfl rfl | (apply Pu.ok; repeat' (first | rfl | exact .inK (by simp only [InK]; omega) | exact .inK (by simp only [InK]; simp at hg; omega) | exact .wr | constructor | decide | omega)))); (try case hp => constructor))
    | refine dpickAnd rfl rfl rfl rfl rfl ?_ | refine dpickOr rfl rfl rfl rfl rfl ?_
    | fail)
  refine DW_loop (fun p : Nat × List Offer => ⟨[(1, .dat false (.slice (says.map Vec.cells))), (5, .own 5 0 0 p.2.length), (9, .dat false (.slice (ends.map endV))), (10, .dat true (.int .i64 (ends.map endV).length)), (11, .dat true (.int .i64 p.1))], [(5, .row 0 false true 7 (p.2.map Offer.cells))], 34⟩)
    (fun p => p.1 ≤ ends.length ∧ p.2 = offersOf (ends.take p.1) says) (fun p => ends.length - p.1) (0, []) ⟨Nat.zero_le _, rfl⟩
    (Wk_g (fun g => if g = 5 then none else some g) rfl rfl (by (repeat' (first | exact trivial | rfl | exact listLe_map _ | exact ⟨_, rfl, .inl rfl⟩ | exact ⟨_, rfl, .inr (.inl rfl)⟩ | exact ⟨_, rfl, .inr (.inr rfl)⟩ | refine ⟨_, _, rfl, rfl, ?_⟩ | exact ⟨_, rfl, rfl⟩ | exact ⟨_, _, _, _, rfl, rfl, rfl⟩ | exact ⟨_, rfl⟩ | exact ⟨_, _, rfl⟩ | apply And.intro)))) (fun p hR => ?_)
  obtain ⟨k, us⟩ := p
  obtain ⟨hk, hus⟩ := hR
  simp only at hk hus
  dsimp only
  have hul : us.length = k := by rw [hus]; simp [offersOf]; omega
  by_cases hlt : k < ends.length
  · have hx : ends[(k : Int).toNat]? = some ends[k] := by simp [hlt]
    have hr := ho ends[k] (List.getElem_mem hlt)
    have hnext : us ++ [offerOf says ends[k]] = offersOf (ends.take (k + 1)) says := by
      rw [hus, List.take_add_one, List.getElem?_eq_getElem hlt]; unfold offersOf; rw [List.map_append]; rfl
    generalize ends[k] = e at hx hr hnext
    have hy : says[e.other.toNat]? = some (says[e.other.toNat]'(by omega)) := List.getElem?_eq_getElem (by omega)
    have hoe : offerOf says e = ⟨e.port, e.cost, 0, { (says[e.other.toNat]'(by omega)) with port := e.oport }⟩ := by unfold offerOf; rw [hy]; rfl
    generalize says[e.other.toNat]'(by omega) = v at hy hoe
    repeat' (first
    | (apply Stp.go; case a => constructor)
    | refine blk_hit rfl ?_ | refine blk_miss rfl ?_ | refine dnilD (by kernel_rfl) ?_ | refine DW_cond_t rfl ?_ | refine DW_cond_f rfl ?_
    | refine dpOff rfl rfl ?_
    | ((first | apply dX rfl | apply dXon rfl rfl | apply dpMay rfl rfl (by intro h; first | trivial | exact ⟨h, trivial⟩ | exact ⟨h, h, trivial⟩ | exact ⟨h, h, h, trivial⟩)); (case h => ((try intro hg); first | exact as_bool (S_lss rfl rfl) (decide_eq_true (by omega : (k : Int) < ((ends.map endV).length : Int))) | exact S_ixM rfl rfl (by omega) hx | exact S_ixM rfl rfl hr.1 hy | exact S_appM (f := Offer.cells) (us := us) (bs := [offerOf says e]) rfl rfl (.dat _ _) (by rw [hoe]; rfl) rfl (.inr ⟨rfl, inferInstance⟩) rfl (by simp only [List.length_singleton]; omega) | exact S_al rfl | exact S_bx rfl rfl | exact S_store rfl rfl rfl rfl rfl rfl | (apply Pu.ok; repeat' (first | rfl | exact .inK (by simp only [InK]; omega) | exact .inK (by simp only [InK]; simp at hg; omega) | exact .wr | constructor | decide | omega)))); (try case hp => constructor))
    | refine dpickAnd rfl rfl rfl rfl rfl ?_ | refine dpickOr rfl rfl rfl rfl rfl ?_
    | fail)
    exact loop_again (k + 1, us ++ [offerOf says e]) ⟨hlt, hnext⟩ (by simp only; omega) (Wk_g some rfl rfl (by (repeat' (first | exact trivial | rfl | exact listLe_map _ | exact ⟨_, rfl, .inl rfl⟩ | exact ⟨_, rfl, .inr (.inl rfl)⟩ | exact ⟨_, rfl, .inr (.inr rfl)⟩ | refine ⟨_, _, rfl, rfl, ?_⟩ | exact ⟨_, rfl, rfl⟩ | exact ⟨_, _, _, _, rfl, rfl, rfl⟩ | exact ⟨_, rfl⟩ | exact ⟨_, _, rfl⟩ | apply And.intro))))
  · have he : us = offersOf ends says := by rw [hus, List.take_of_length_le (by omega)]
    refine DW_seal 5 rfl rfl (by simp) ?_
    repeat' (first
    | (apply Stp.go; case a => constructor)
    | refine blk_hit rfl ?_ | refine blk_miss rfl ?_ | refine dnilD (by kernel_rfl) ?_ | refine DW_cond_t rfl ?_ | refine DW_cond_f rfl ?_
    | refine dpOff rfl rfl ?_
    | ((first | apply dX rfl | apply dXon rfl rfl | apply dpMay rfl rfl (by intro h; first | trivial | exact ⟨h, trivial⟩ | exact ⟨h, h, trivial⟩ | exact ⟨h, h, h, trivial⟩)); (case h => ((try intro hg); first | exact as_bool (S_lss rfl rfl) (decide_eq_false (by omega : ¬ (k : Int) < ((ends.map endV).length : Int))) | exact S_al rfl | exact S_bx rfl rfl | exact S_store rfl rfl rfl rfl rfl rfl | (apply Pu.ok; repeat' (first | rfl | exact .inK (by simp only [InK]; omega) | exact .inK (by simp only [InK]; simp at hg; omega) | exact .wr | constructor | decide | omega)))); (try case hp => constructor))
    | refine dpickAnd rfl rfl rfl rfl rfl ?_ | refine dpickOr rfl rfl rfl rfl rfl ?_
    | fail)
    refine ret1 rfl (.inl rfl) ?_
    rw [← he]
end Go.Proofs.Ytkppkgahdoglpaa
