/- Contracts: region.Wrong, and the document's. -/
import Derived.Test.YtfmaehhloffabaaybFz
import Derived.Test.YtfmaehhloffabaayTy
namespace Go.Proofs.Ytfmaehhloffabaa
open Go.RowKit
section
variable {P : Program} {e : Operand → D} {m : Mem} {dst : Option Tmp} {ty : TypeId} {pos : String} {af : Array Edge} {gd : Option (Nat × Bool)} {x y : Operand} {t s el : TypeId}
theorem S_ix_str {n n' : Bool} {k : IntKind} {i : Int} {l : List UInt8} {c : UInt8} (hu : P.underlying t = some .string) (h1 : e x = .dat n (.str l)) (h2 : e y = .dat n' (.int k i)) (hi : 0 ≤ i) (hc : l[i.toNat]? = some c) :
    SStep P ⟨dst, .index t x y, ty, pos, af, gd⟩ e m [] (.dat true (.int .u8 c.toNat)) [] :=
  .pure fun C m' ac _ hh hx => by
    have g1 := hx x (by simp [Op.operands]); rw [h1] at g1
    have g2 := rd_int (by have := hx y (by simp [Op.operands]); rwa [h2] at this)
    refine ⟨.int .u8 c.toNat, ?_, mk_int⟩
    have hg : (⟨l.toArray⟩ : ByteArray)[i.toNat]? = some c := by
      have h3 : i.toNat < l.length := (List.getElem?_eq_some_iff.1 hc).1
      have h4 : l[i.toNat] = c := (List.getElem?_eq_some_iff.1 hc).2
      have h5 : i.toNat < (⟨l.toArray⟩ : ByteArray).size := by simpa [ByteArray.size] using h3
      rw [getElem?_pos (⟨l.toArray⟩ : ByteArray) i.toNat h5]
      exact congrArg some h4
    simp [execOp, Instr.index, rd_str g1, g2, asIntOf, run_under hu, hi, hg]
end
end Go.Proofs.Ytfmaehhloffabaa
namespace Go.Proofs.Ytfmaehhloffabaa
open Go.RowKit
structure Way where
  vid : Int
  tree : Int
def wayV (w : Way) : List V := [.int .i64 w.vid, .int .i64 w.tree]
instance : CellsI wayV 2 := ⟨fun _ => rfl, fun t d h => by
  simp only [wayV, List.mem_cons, List.mem_nil_iff, or_false] at h
  rcases h with rfl | rfl <;> rfl⟩
instance : FlatI wayV := ⟨fun t d h => by
  simp only [wayV, List.mem_cons, List.mem_nil_iff, or_false] at h
  rcases h with rfl | rfl <;> exact .int _ _⟩
structure Region where
  name : List UInt8
  rev : Int
  ways : List Way
def Region.cells (r : Region) : List V := [.str r.name, .int .i64 r.rev, .slice (r.ways.map wayV)]
def Region.v (r : Region) : V := .agg r.cells
def Way.bad (w : Way) : Prop := w.vid < 1 ∨ 4094 < w.vid ∨ w.tree < 1 ∨ 15 < w.tree
instance wayBadDec (w : Way) : Decidable w.bad := by unfold Way.bad; infer_instance
def waysW (last : Int) : List Way → Int
  | [] => 0
  | w :: r => if w.bad then 3 else if w.vid ≤ last then 2 else waysW w.vid r
def okC (c : UInt8) : Bool := 32 ≤ c.toNat && c.toNat ≤ 126
def Region.wrong (r : Region) : Int :=
  if r.name.length < 1 ∨ 32 < r.name.length then 7 else if r.name.all okC = false then 7 else if r.rev < 0 ∨ 65535 < r.rev then 3 else waysW 0 r.ways
structure Region.right (r : Region) : Prop where
  n1 : 1 ≤ r.name.length
  n2 : r.name.length ≤ 32
  nc : r.name.all okC = true
  r0 : 0 ≤ r.rev
  r1 : r.rev ≤ 65535
  w : ∀ w ∈ r.ways, ¬ w.bad
  s : r.ways.Pairwise (fun a b => a.vid < b.vid)
  l : r.ways.length ≤ 4094
theorem waysW_zero : ∀ (ws : List Way) (last : Int), 0 ≤ last → last ≤ 4094 → waysW last ws = 0 → (∀ w ∈ ws, ¬ w.bad ∧ last < w.vid) ∧ ws.Pairwise (fun a b => a.vid < b.vid) ∧ (ws.length : Int) ≤ 4094 - last
  | [], last, _, _, _ => by simp; omega
  | w :: r, last, h1, h2, h => by
    rw [waysW] at h
    split at h
    · cases h
    · rename_i hb
      split at h
      · cases h
      · rename_i hl
        have hb' := hb
        unfold Way.bad at hb'
        obtain ⟨k1, k2, k3⟩ := waysW_zero r w.vid (by omega) (by omega) h
        refine ⟨fun u hu => ?_, List.pairwise_cons.2 ⟨fun u hu => (k1 u hu).2, k2⟩, by simp; omega⟩
        rcases List.mem_cons.1 hu with rfl | hu
        · exact ⟨hb, by omega⟩
        · exact ⟨(k1 u hu).1, by have := (k1 u hu).2; omega⟩
theorem Region.right_of {r : Region} (h : r.wrong = 0) : r.right := by
  unfold Region.wrong at h
  split at h
  · cases h
  · split at h
    · cases h
    · split at h
      · cases h
      · rename_i a b c
        obtain ⟨k1, k2, k3⟩ := waysW_zero _ _ (by decide) (by decide) h
        exact ⟨by omega, by omega, by simpa using b, by omega, by omega, fun w hw => (k1 w hw).1, k2, by omega⟩
end Go.Proofs.Ytfmaehhloffabaa
namespace Go.Proofs.Ytfmaehhloffabaa
open Go.RowKit
def lastV (ws : List Way) : Nat → Int
  | 0 => 0
  | k + 1 => (ws[k]?.map Way.vid).getD 0
theorem all_take {l : List UInt8} {k : Nat} {c : UInt8} (h : l[k]? = some c) : (l.take (k + 1)).all okC = ((l.take k).all okC && okC c) := by
  rw [List.take_add_one, h, List.all_append]
  simp
theorem not_all {l : List UInt8} {k : Nat} {c : UInt8} (h : l[k]? = some c) (hc : okC c = false) : l.all okC = false := by
  rw [Bool.eq_false_iff]
  intro ha
  have := List.all_eq_true.1 ha c (List.mem_of_getElem? h)
  rw [hc] at this
  cases this
attribute [local irreducible] SStep DW DWin DOps thenQ inBlk loopQ retQ retQG FnF FnG Wk IntKind.wrap IntKind.andI IntKind.orI IntKind.xorI IntKind.andNotI IntKind.shlI IntKind.shrI
set_option maxHeartbeats 2000000 in
theorem region_Wrong (r : Region) (hl : r.ways.length ≤ 9223372036854775807) : FnF Try.prog 52 [r.v] (.int .i64 r.wrong) := by
  refine fnF_of Try.func52 rfl rfl rfl ?_
  simp only [envOf]
  by_cases ha : r.name.length < 1
  · repeat' (first | (apply Wa; constructor) | refine Wb rfl ?_ | refine Wc rfl ?_ | refine Wd (by kernel_rfl) ?_ | refine We rfl ?_ | refine Wf rfl ?_ | refine Wi rfl rfl ?_ | ((first | apply dX rfl | apply Da rfl rfl | apply Db rfl rfl (by intro h; first | trivial | exact ⟨h, trivial⟩ | exact ⟨h, h, trivial⟩)); (focus ((try intro hg); first | exact as_bool (S_lss rfl rfl) (decide_eq_true (by omega : (r.name.length : Int) < 1)) | exact S_al rfl | exact S_bx rfl rfl | exact S_store rfl rfl rfl rfl rfl rfl | (apply Pu.ok; repeat' (first | rfl | exact .inK (by simp only [InK]; omega) | exact .wr | constructor | decide | omega)))); constructor) | refine Pa rfl rfl rfl rfl rfl ?_ | refine Po rfl rfl rfl rfl rfl ?_ | fail)
    refine ret1 rfl (.inl rfl) ?_
    congr 1; unfold Region.wrong
    rw [if_pos (.inl ha)]
  by_cases hb2 : 32 < r.name.length
  · repeat' (first | (apply Wa; constructor) | refine Wb rfl ?_ | refine Wc rfl ?_ | refine Wd (by kernel_rfl) ?_ | refine We rfl ?_ | refine Wf rfl ?_ | refine Wi rfl rfl ?_ | ((first | apply dX rfl | apply Da rfl rfl | apply Db rfl rfl (by intro h; first | trivial | exact ⟨h, trivial⟩ | exact ⟨h, h, trivial⟩)); (focus ((try intro hg); first | exact as_bool (S_lss rfl rfl) (decide_eq_false (by omega : ¬ (r.name.length : Int) < 1)) | exact as_bool (S_gtr rfl rfl) (decide_eq_true (by omega : (32 : Int) < (r.name.length : Int))) | exact S_al rfl | exact S_bx rfl rfl | exact S_store rfl rfl rfl rfl rfl rfl | (apply Pu.ok; repeat' (first | rfl | exact .inK (by simp only [InK]; omega) | exact .wr | constructor | decide | omega)))); constructor) | refine Pa rfl rfl rfl rfl rfl ?_ | refine Po rfl rfl rfl rfl rfl ?_ | fail)
    refine ret1 rfl (.inl rfl) ?_
    congr 1; unfold Region.wrong
    rw [if_pos (.inr hb2)]
  repeat' (first | (apply Wa; constructor) | refine Wb rfl ?_ | refine Wc rfl ?_ | refine Wd (by kernel_rfl) ?_ | refine We rfl ?_ | refine Wf rfl ?_ | refine Wi rfl rfl ?_ | ((first | apply dX rfl | apply Da rfl rfl | apply Db rfl rfl (by intro h; first | trivial | exact ⟨h, trivial⟩ | exact ⟨h, h, trivial⟩)); (focus ((try intro hg); first | exact as_bool (S_lss rfl rfl) (decide_eq_false (by omega : ¬ (r.name.length : Int) < 1)) | exact as_bool (S_gtr rfl rfl) (decide_eq_false (by omega : ¬ (32 : Int) < (r.name.length : Int))) | exact S_al rfl | exact S_bx rfl rfl | exact S_store rfl rfl rfl rfl rfl rfl | (apply Pu.ok; repeat' (first | rfl | exact .inK (by simp only [InK]; omega) | exact .wr | constructor | decide | omega)))); constructor) | refine Pa rfl rfl rfl rfl rfl ?_ | refine Po rfl rfl rfl rfl rfl ?_ | fail)
  refine DW_loop (fun k : Nat => ⟨[(1, .ptr 1 0), (18, .dat true (.int .i64 r.name.length)), (19, .dat true (.int .i64 k))], [(1, .cells false true (r.cells.map (.dat false)))], 86⟩)
    (fun k => k ≤ r.name.length ∧ (r.name.take k).all okC = true) (fun k => r.name.length - k) 0 ⟨Nat.zero_le _, rfl⟩
    (Wk_g some rfl rfl (by (repeat' (first | exact trivial | rfl | exact listLe_map _ | exact ⟨_, rfl, .inl rfl⟩ | exact ⟨_, rfl, .inr (.inl rfl)⟩ | exact ⟨_, rfl, .inr (.inr rfl)⟩ | refine ⟨_, _, rfl, rfl, ?_⟩ | exact ⟨_, rfl, rfl⟩ | exact ⟨_, _, _, _, rfl, rfl, rfl⟩ | exact ⟨_, rfl⟩ | exact ⟨_, _, rfl⟩ | apply And.intro)))) (fun k hR => ?_)
  obtain ⟨hk, hall⟩ := hR
  have hnn : ¬ (r.name.length < 1 ∨ 32 < r.name.length) := by omega
  by_cases hlt : k < r.name.length
  · have hx : r.name[(k : Int).toNat]? = some r.name[k] := by simp [hlt]
    have hx' : r.name[k]? = some r.name[k] := by simp [hlt]
    have hat := all_take hx'
    generalize r.name[k] = c at hx hx' hat
    have hc : okC c = false ↔ ((c.toNat : Int) < 32 ∨ (126 : Int) < c.toNat) := by unfold okC; simp; omega
    repeat' (first | (apply Wa; constructor) | refine Wb rfl ?_ | refine Wc rfl ?_ | refine Wd (by kernel_rfl) ?_ | refine We rfl ?_ | refine Wf rfl ?_ | refine DW_cond rfl (fun hb => ?_) (fun hb => ?_) | refine Wi rfl rfl ?_ | ((first | apply dX rfl | apply Da rfl rfl | apply Db rfl rfl (by intro h; first | trivial | exact ⟨h, trivial⟩ | exact ⟨h, h, trivial⟩)); (focus ((try intro hg); first | exact as_bool (S_lss rfl rfl) (decide_eq_true (by omega : (k : Int) < (r.name.length : Int))) | exact S_ix_str Try.underlying9 rfl rfl (by omega) hx | exact S_al rfl | exact S_bx rfl rfl | exact S_store rfl rfl rfl rfl rfl rfl | (apply Pu.ok; repeat' (first | rfl | exact .inK (by simp only [InK]; omega) | exact .wr | constructor | decide | omega)))); constructor) | refine Pa rfl rfl rfl rfl rfl ?_ | refine Po rfl rfl rfl rfl rfl ?_ | fail)
    · refine ret1 rfl (.inl rfl) ?_
      simp only [Bool.or_eq_true, decide_eq_true_eq] at hb
      congr 1; unfold Region.wrong
      rw [if_neg hnn, if_pos (not_all hx' (hc.2 hb))]
    · simp only [Bool.or_eq_false_iff, decide_eq_false_iff_not] at hb
      refine loop_again (k + 1) ⟨hlt, ?_⟩ (by omega) (Wk_g some rfl rfl (by (repeat' (first | exact trivial | rfl | exact listLe_map _ | exact ⟨_, rfl, .inl rfl⟩ | exact ⟨_, rfl, .inr (.inl rfl)⟩ | exact ⟨_, rfl, .inr (.inr rfl)⟩ | refine ⟨_, _, rfl, rfl, ?_⟩ | exact ⟨_, rfl, rfl⟩ | exact ⟨_, _, _, _, rfl, rfl, rfl⟩ | exact ⟨_, rfl⟩ | exact ⟨_, _, rfl⟩ | apply And.intro))))
      rw [hat, hall]
      cases ho : okC c with
      | true => rfl
      | false => have := hc.1 ho; omega
  · rw [List.take_of_length_le (by omega)] at hall
    have hall' : ¬ r.name.all okC = false := by rw [hall]; simp
    by_cases h0 : r.rev < 0
    · repeat' (first | (apply Wa; constructor) | refine Wb rfl ?_ | refine Wc rfl ?_ | refine Wd (by kernel_rfl) ?_ | refine We rfl ?_ | refine Wf rfl ?_ | refine Wi rfl rfl ?_ | ((first | apply dX rfl | apply Da rfl rfl | apply Db rfl rfl (by intro h; first | trivial | exact ⟨h, trivial⟩ | exact ⟨h, h, trivial⟩)); (focus ((try intro hg); first | exact as_bool (S_lss rfl rfl) (decide_eq_false (by omega : ¬ (k : Int) < (r.name.length : Int))) | exact as_bool (S_lss rfl rfl) (decide_eq_true h0) | exact S_al rfl | exact S_bx rfl rfl | exact S_store rfl rfl rfl rfl rfl rfl | (apply Pu.ok; repeat' (first | rfl | exact .inK (by simp only [InK]; omega) | exact .wr | constructor | decide | omega)))); constructor) | refine Pa rfl rfl rfl rfl rfl ?_ | refine Po rfl rfl rfl rfl rfl ?_ | fail)
      refine ret1 rfl (.inl rfl) ?_
      congr 1; unfold Region.wrong
      rw [if_neg hnn, if_neg hall', if_pos (.inl h0)]
    by_cases h6 : 65535 < r.rev
    · repeat' (first | (apply Wa; constructor) | refine Wb rfl ?_ | refine Wc rfl ?_ | refine Wd (by kernel_rfl) ?_ | refine We rfl ?_ | refine Wf rfl ?_ | refine Wi rfl rfl ?_ | ((first | apply dX rfl | apply Da rfl rfl | apply Db rfl rfl (by intro h; first | trivial | exact ⟨h, trivial⟩ | exact ⟨h, h, trivial⟩)); (focus ((try intro hg); first | exact as_bool (S_lss rfl rfl) (decide_eq_false (by omega : ¬ (k : Int) < (r.name.length : Int))) | exact as_bool (S_lss rfl rfl) (decide_eq_false h0) | exact as_bool (S_gtr rfl rfl) (decide_eq_true h6) | exact S_al rfl | exact S_bx rfl rfl | exact S_store rfl rfl rfl rfl rfl rfl | (apply Pu.ok; repeat' (first | rfl | exact .inK (by simp only [InK]; omega) | exact .wr | constructor | decide | omega)))); constructor) | refine Pa rfl rfl rfl rfl rfl ?_ | refine Po rfl rfl rfl rfl rfl ?_ | fail)
      refine ret1 rfl (.inl rfl) ?_
      congr 1; unfold Region.wrong
      rw [if_neg hnn, if_neg hall', if_pos (.inr h6)]
    have hw0 : r.wrong = waysW 0 r.ways := by unfold Region.wrong; rw [if_neg hnn, if_neg hall', if_neg (by omega)]
    rw [hw0]
    have hml : (r.ways.map wayV).length = r.ways.length := by simp
    repeat' (first | (apply Wa; constructor) | refine Wb rfl ?_ | refine Wc rfl ?_ | refine Wd (by kernel_rfl) ?_ | refine We rfl ?_ | refine Wf rfl ?_ | refine Wi rfl rfl ?_ | ((first | apply dX rfl | apply Da rfl rfl | apply Db rfl rfl (by intro h; first | trivial | exact ⟨h, trivial⟩ | exact ⟨h, h, trivial⟩)); (focus ((try intro hg); first | exact as_bool (S_lss rfl rfl) (decide_eq_false (by omega : ¬ (k : Int) < (r.name.length : Int))) | exact as_bool (S_lss rfl rfl) (decide_eq_false h0) | exact as_bool (S_gtr rfl rfl) (decide_eq_false h6) | exact S_al rfl | exact S_bx rfl rfl | exact S_store rfl rfl rfl rfl rfl rfl | (apply Pu.ok; repeat' (first | rfl | exact .inK (by simp only [InK]; omega) | exact .wr | constructor | decide | omega)))); constructor) | refine Pa rfl rfl rfl rfl rfl ?_ | refine Po rfl rfl rfl rfl rfl ?_ | fail)
    refine DW_loop (fun k : Nat => ⟨[(1, .ptr 1 0), (44, .dat false (.slice (r.ways.map wayV))), (45, .dat true (.int .i64 (r.ways.map wayV).length)), (46, .dat true (.int .i64 k))], [(1, .cells false true (r.cells.map (.dat false)))], 86⟩)
      (fun k => k ≤ r.ways.length ∧ waysW 0 r.ways = waysW (lastV r.ways k) (r.ways.drop k)) (fun k => r.ways.length - k) 0 ⟨Nat.zero_le _, rfl⟩
      (Wk_g some rfl rfl (by (repeat' (first | exact trivial | rfl | exact listLe_map _ | exact ⟨_, rfl, .inl rfl⟩ | exact ⟨_, rfl, .inr (.inl rfl)⟩ | exact ⟨_, rfl, .inr (.inr rfl)⟩ | refine ⟨_, _, rfl, rfl, ?_⟩ | exact ⟨_, rfl, rfl⟩ | exact ⟨_, _, _, _, rfl, rfl, rfl⟩ | exact ⟨_, rfl⟩ | exact ⟨_, _, rfl⟩ | apply And.intro)))) (fun k hR => ?_)
    obtain ⟨hk, hw⟩ := hR
    by_cases hlt : k < r.ways.length
    · have hx : r.ways[(k : Int).toNat]? = some r.ways[k] := by simp [hlt]
      have hn : r.ways.drop k = r.ways[k] :: r.ways.drop (k + 1) := List.drop_eq_getElem_cons hlt
      have hlast : lastV r.ways (k + 1) = (r.ways[k]).vid := by simp [lastV, hlt]
      generalize r.ways[k] = t at hx hn hlast
      rw [hn, waysW] at hw
      rcases k with - | j
      · have h00 : lastV r.ways 0 = 0 := rfl
        repeat' (first | (apply Wa; constructor) | refine Wb rfl ?_ | refine Wc rfl ?_ | refine Wd (by kernel_rfl) ?_ | refine We rfl ?_ | refine Wf rfl ?_ | refine DW_cond rfl (fun hb => ?_) (fun hb => ?_) | refine Wi rfl rfl ?_ | ((first | apply dX rfl | apply Da rfl rfl | apply Db rfl rfl (by intro h; first | trivial | exact ⟨h, trivial⟩ | exact ⟨h, h, trivial⟩)); (focus ((try intro hg); first | exact as_bool (S_lss rfl rfl) (decide_eq_true (by omega : ((0 : Nat) : Int) < ((r.ways.map wayV).length : Int))) | exact S_ixM rfl rfl (by omega) hx | exact as_bool (b := false) (S_gtr rfl rfl) rfl | exact S_al rfl | exact S_bx rfl rfl | exact S_store rfl rfl rfl rfl rfl rfl | (apply Pu.ok; repeat' (first | rfl | exact .inK (by simp only [InK]; omega) | exact .wr | constructor | decide | omega)))); constructor) | refine Pa rfl rfl rfl rfl rfl ?_ | refine Po rfl rfl rfl rfl rfl ?_ | fail)
        · refine ret1 rfl (.inl rfl) ?_
          simp only [Bool.or_eq_true, decide_eq_true_eq] at hb
          rw [hw, if_pos (by unfold Way.bad; omega)]
        · simp only [Bool.or_eq_false_iff, decide_eq_false_iff_not] at hb
          refine loop_again (0 + 1) ⟨hlt, ?_⟩ (by omega) (Wk_g some rfl rfl (by (repeat' (first | exact trivial | rfl | exact listLe_map _ | exact ⟨_, rfl, .inl rfl⟩ | exact ⟨_, rfl, .inr (.inl rfl)⟩ | exact ⟨_, rfl, .inr (.inr rfl)⟩ | refine ⟨_, _, rfl, rfl, ?_⟩ | exact ⟨_, rfl, rfl⟩ | exact ⟨_, _, _, _, rfl, rfl, rfl⟩ | exact ⟨_, rfl⟩ | exact ⟨_, _, rfl⟩ | apply And.intro))))
          rw [hw, if_neg (by unfold Way.bad; omega), h00, if_neg (by omega), hlast]
      · have hj : j < r.ways.length := by omega
        have hx2 : r.ways[(((j + 1 : Nat) : Int) - 1).toNat]? = some r.ways[j] := by
          rw [show (((j + 1 : Nat) : Int) - 1).toNat = j by omega]; exact List.getElem?_eq_getElem hj
        have h00 : lastV r.ways (j + 1) = (r.ways[j]).vid := by simp [lastV, hj]
        generalize r.ways[j] = q at hx2 h00
        repeat' (first | (apply Wa; constructor) | refine Wb rfl ?_ | refine Wc rfl ?_ | refine Wd (by kernel_rfl) ?_ | refine We rfl ?_ | refine Wf rfl ?_ | refine DW_cond rfl (fun hb => ?_) (fun hb => ?_) | refine Wi rfl rfl ?_ | ((first | apply dX rfl | apply Da rfl rfl | apply Db rfl rfl (by intro h; first | trivial | exact ⟨h, trivial⟩ | exact ⟨h, h, trivial⟩)); (focus ((try intro hg); first | exact as_bool (S_lss rfl rfl) (decide_eq_true (by omega : ((j + 1 : Nat) : Int) < ((r.ways.map wayV).length : Int))) | exact S_ixM rfl rfl (by omega) hx | exact S_ixM rfl rfl (by omega) hx2 | exact as_bool (S_gtr rfl rfl) (decide_eq_true (by omega : (0 : Int) < ((j + 1 : Nat) : Int))) | exact S_al rfl | exact S_bx rfl rfl | exact S_store rfl rfl rfl rfl rfl rfl | (apply Pu.ok; repeat' (first | rfl | exact .inK (by simp only [InK]; omega) | exact .wr | constructor | decide | omega)))); constructor) | refine Pa rfl rfl rfl rfl rfl ?_ | refine Po rfl rfl rfl rfl rfl ?_ | fail)
        · refine ret1 rfl (.inl rfl) ?_
          simp only [Bool.or_eq_true, decide_eq_true_eq] at hb
          rw [hw, if_pos (by unfold Way.bad; omega)]
        · rename_i hb1
          simp only [Bool.or_eq_false_iff, decide_eq_true_eq, decide_eq_false_iff_not] at hb hb1
          refine ret1 rfl (.inl rfl) ?_
          rw [hw, if_neg (by unfold Way.bad; omega), h00, if_pos (by omega)]
        · rename_i hb1
          simp only [Bool.or_eq_false_iff, decide_eq_false_iff_not] at hb hb1
          refine loop_again (j + 1 + 1) ⟨hlt, ?_⟩ (by omega) (Wk_g some rfl rfl (by (repeat' (first | exact trivial | rfl | exact listLe_map _ | exact ⟨_, rfl, .inl rfl⟩ | exact ⟨_, rfl, .inr (.inl rfl)⟩ | exact ⟨_, rfl, .inr (.inr rfl)⟩ | refine ⟨_, _, rfl, rfl, ?_⟩ | exact ⟨_, rfl, rfl⟩ | exact ⟨_, _, _, _, rfl, rfl, rfl⟩ | exact ⟨_, rfl⟩ | exact ⟨_, _, rfl⟩ | apply And.intro))))
          rw [hw, if_neg (by unfold Way.bad; omega), h00, if_neg (by omega), hlast]
    · repeat' (first | (apply Wa; constructor) | refine Wb rfl ?_ | refine Wc rfl ?_ | refine Wd (by kernel_rfl) ?_ | refine We rfl ?_ | refine Wf rfl ?_ | refine Wi rfl rfl ?_ | ((first | apply dX rfl | apply Da rfl rfl | apply Db rfl rfl (by intro h; first | trivial | exact ⟨h, trivial⟩ | exact ⟨h, h, trivial⟩)); (focus ((try intro hg); first | exact as_bool (S_lss rfl rfl) (decide_eq_false (by omega : ¬ (k : Int) < ((r.ways.map wayV).length : Int))) | exact S_al rfl | exact S_bx rfl rfl | exact S_store rfl rfl rfl rfl rfl rfl | (apply Pu.ok; repeat' (first | rfl | exact .inK (by simp only [InK]; omega) | exact .wr | constructor | decide | omega)))); constructor) | refine Pa rfl rfl rfl rfl rfl ?_ | refine Po rfl rfl rfl rfl rfl ?_ | fail)
      refine ret1 rfl (.inl rfl) ?_
      rw [hw, List.drop_eq_nil_of_le (by omega)]
      rfl
end Go.Proofs.Ytfmaehhloffabaa
