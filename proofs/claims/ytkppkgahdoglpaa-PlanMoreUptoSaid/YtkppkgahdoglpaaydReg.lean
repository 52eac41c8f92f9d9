/- Contracts: region.Wrong, and the document's. -/
import Derived.Test.YtkppkgahdoglpaaybRg
import Derived.Test.YtkppkgahdoglpaayTy
namespace Go.Proofs.Ytkppkgahdoglpaa
open Go.RowKit
theorem frz_step {C : Cf} {mem : Mem} (hm : HoldsM C mem) (g : Nat) (hk : ∀ kt et es, mem.at g ≠ .mapb kt et es) : ∃ C', C'.w = C.w ∧ Step C mem C' ((g, frzBox (mem.at g)) :: mem) := by
  let X : Nat → Prop := fun b => (mem.at g).mut = true ∧ C.ι g = some b
  let C' : Cf := { C with S := fun b => C.S b ∨ X b, N := fun b => C.N b ∨ X b }
  have hD : ∀ nw b, C.D nw b → C'.D nw b := fun nw b h => by cases nw <;> exact .inl h
  have hd : ∀ n x v, RdF C n x v → RdF C' n x v := fun n x v h => Rd.mono h (hD n) (fun _ _ => rfl)
  have hat : ∀ g', Mem.at ((g, frzBox (mem.at g)) :: mem) g' = if g = g' then frzBox (mem.at g) else mem.at g' := fun g' => look_cons _ _ _ _ _
  have hs : ∀ d v, RdS C mem d v → RdS C' ((g, frzBox (mem.at g)) :: mem) d v := by
    intro d v h
    cases d with
    | any => trivial
    | nil => exact h
    | dat n x => exact hd n x v h
    | own g' ver lo len =>
      obtain ⟨ver', frz, nw, sz, xs, h1, h2, h3, h4⟩ := h
      by_cases hg : g = g'
      · subst hg
        exact ⟨ver', true, nw, sz, xs, by rw [hat, if_pos rfl, h1]; rfl, h2, h3, h4⟩
      · exact ⟨ver', frz, nw, sz, xs, by rw [hat, if_neg hg]; exact h1, h2, h3, h4⟩
    | ptr g' off =>
      obtain ⟨frz, nw, cs, b, h1, h2, h3⟩ := h
      by_cases hg : g = g'
      · subst hg
        exact ⟨true, nw, cs, b, by rw [hat, if_pos rfl, h1]; rfl, h2, h3⟩
      · exact ⟨frz, nw, cs, b, by rw [hat, if_neg hg]; exact h1, h2, h3⟩
    | rptr g' ver i off =>
      obtain ⟨ver', frz, nw, sz, xs, h1, h2, h3, h4⟩ := h
      by_cases hg : g = g'
      · subst hg
        exact ⟨ver', true, nw, sz, xs, by rw [hat, if_pos rfl, h1]; rfl, h2, h3, h4⟩
      · exact ⟨ver', frz, nw, sz, xs, by rw [hat, if_neg hg]; exact h1, h2, h3, h4⟩
    | mp g' =>
      obtain ⟨kt, et, es, b, h1, h2, h3⟩ := h
      have hg : g ≠ g' := by rintro rfl; exact hk _ _ _ h1
      exact ⟨kt, et, es, b, by rw [hat, if_neg hg]; exact h1, h2, h3⟩
    | sl g' n =>
      obtain ⟨frz, nw, cs, b, cap, h1, h2, h3⟩ := h
      by_cases hg : g = g'
      · subst hg
        exact ⟨true, nw, cs, b, cap, by rw [hat, if_pos rfl, h1]; rfl, h2, h3⟩
      · exact ⟨frz, nw, cs, b, cap, by rw [hat, if_neg hg]; exact h1, h2, h3⟩
    | _ => exact h.elim
  have hmutne : ∀ g', (Mem.at ((g, frzBox (mem.at g)) :: mem) g').mut = true → g ≠ g' ∧ (mem.at g').mut = true := by
    intro g' h
    rw [hat] at h
    by_cases hg : g = g'
    · rw [if_pos hg] at h
      cases hb : mem.at g with
      | mapb kt et es => exact absurd hb (hk _ _ _)
      | _ => rw [hb] at h; simp [frzBox, Box.mut] at h
    · rw [if_neg hg] at h
      exact ⟨hg, h⟩
  have hgone : ∀ g', Mem.at ((g, frzBox (mem.at g)) :: mem) g' ≠ .gone → mem.at g' ≠ .gone := by
    intro g' h
    rw [hat] at h
    by_cases hg : g = g'
    · rw [if_pos hg] at h
      subst hg
      intro h0
      rw [h0] at h
      exact h rfl
    · rwa [if_neg hg] at h
  have hext : Ext C mem C' ((g, frzBox (mem.at g)) :: mem) := by
    refine ⟨rfl, rfl, rfl, Nat.le_refl _, fun _ _ _ => rfl, fun g' b h1 h2 => .inr ⟨g', (hmutne g' h1).2, h2⟩, fun _ h => .inl h, fun _ h => .inl h, fun b hb => ?_, fun b hb => ?_⟩
    · rcases hb with hb | hb
      · exact .inl hb
      · exact .inr (.inr hb)
    · rcases hb with hb | ⟨h1, h2⟩
      · exact .inl hb
      · exact .inr (.inr ⟨g, h1, h2⟩)
  refine ⟨C', rfl, ⟨hext, ⟨fun g' => ?_, fun g1 g2 b h1 h2 => hm.inj g1 g2 b (hgone g1 h1) (hgone g2 h2), fun g' b h1 h2 h3 => ?_, fun b hb => ?_, fun b hb => hb.imp (hm.ns b) id⟩, fun d v h => RdD.of_S hs d v h⟩⟩
  · have h0 := BoxOK.upd (hm.box g') (C' := C') (fun _ _ => rfl) hd hs (fun b h => .inl h) (fun b h => .inl h)
    show BoxOK C' _ (C.ι g') _
    rw [hat]
    by_cases hg : g = g'
    · subst hg
      rw [if_pos rfl]
      cases hb : mem.at g with
      | cells frz nw cs =>
        rw [hb] at h0
        obtain ⟨b, hi, arr, T, fz, h1, h2, h3, h4, h5⟩ := h0
        refine ⟨b, hi, arr, T, fz, h1, h2, h3, h4, fun _ => ?_⟩
        cases frz with
        | true => exact h5 rfl
        | false =>
          have hx : X b := ⟨by rw [hb]; rfl, hi⟩
          cases nw <;> exact .inr hx
      | row ver frz nw sz xs =>
        rw [hb] at h0
        cases hi : C.ι g with
        | none => rw [hi] at h0; exact h0
        | some b =>
          rw [hi] at h0
          obtain ⟨arr, T, fz, h1, h2, h3, h4, h5, h6, h7⟩ := h0
          refine ⟨arr, T, fz, h1, h2, h3, h4, h5, h6, fun _ => ?_⟩
          cases frz with
          | true => exact h7 rfl
          | false => exact .inr ⟨by rw [hb]; rfl, hi⟩
      | mapb kt et es => exact absurd hb (hk _ _ _)
      | gone => trivial
    · rw [if_neg hg]
      exact h0
  · obtain ⟨hg, hmt⟩ := hmutne g' h1
    rcases h3 with h3 | ⟨h3, h4⟩
    · exact hm.sep g' b hmt h2 h3
    · refine hg (hm.inj g g' b ?_ ?_ h4 h2)
      · intro h0
        have h0 : mem.at g = .gone := h0
        rw [h0] at h3; cases h3
      · intro h0
        have h0 : mem.at g' = .gone := h0
        rw [h0] at hmt; cases hmt
  · rcases hb with hb | ⟨h1, h2⟩
    · exact hm.sdom b hb
    · exact BoxOK.lt hm (g := g) (by intro h0; have h0 : mem.at g = .gone := h0; rw [h0] at h1; cases h1) h2
section
variable {P : Program} {e : Operand → D} {m : Mem} {o : Oper} {rd : List Nat} {val : D} {wr : Mem}
theorem S_frz (g : Nat) {bx : Box} (hmg : m.at g = bx) (hk : (match bx with | .mapb _ _ _ => false | _ => true) = true) (h : SStep P o e ((g, frzBox bx) :: m) rd val wr) :
    SStep P o e m (g :: rd) val (wr ++ [(g, frzBox bx)]) := by
  intro C m' a next Q hag hm hxs hn
  have hg' : m'.at g = bx := (hag g (.inl (List.mem_cons.2 (.inl rfl)))).trans hmg
  obtain ⟨C1, e1, h1⟩ := frz_step hm g (fun kt et es h0 => by rw [hg'] at h0; subst h0; cases hk)
  rw [hg'] at h1
  rw [← e1]
  refine h C1 ((g, frzBox bx) :: m') a next Q (fun g' hg'' => ?_) h1.holds (fun x hx' => h1.slot _ _ (hxs x hx')) (fun v C2 h2 hv => ?_)
  · show Mem.at ((g, frzBox bx) :: m') g' = Mem.at ((g, frzBox bx) :: m) g'
    unfold Mem.at
    rw [look_cons, look_cons]
    by_cases he : g = g'
    · rw [if_pos he, if_pos he]
    · rw [if_neg he, if_neg he]
      refine hag g' ?_
      rcases hg'' with h0 | h0
      · exact .inl (List.mem_cons.2 (.inr h0))
      · refine .inr ?_
        rw [List.map_append, List.mem_append]
        exact .inl h0
  · have e2 : wr ++ [(g, frzBox bx)] ++ m' = wr ++ ((g, frzBox bx) :: m') := by simp
    refine hn v C2 ?_ ?_
    · rw [e2]; exact h1.trans h2
    · rw [e2]; exact hv
end
section
variable {P : Program} {ops : Array Oper} {r : List Oper} {env : Env} {mem : Mem} {nt : Nat} {acc : List (List Nat × List Nat)} {K : List (List Nat × List Nat) → St → Prop} {rd : List Nat} {val : D} {wr : Mem}
  {t : Nat} {c : Call} {ty : TypeId} {pos : String} {af : Array Edge}
end
end Go.Proofs.Ytkppkgahdoglpaa
namespace Go.Proofs.Ytkppkgahdoglpaa
open Go.RowKit
structure Way where
  vid : Int
  tree : Int
def wayV (w : Way) : List V := [.int .i64 w.vid, .int .i64 w.tree]
instance : CellsI wayV 2 := ⟨fun _ => rfl, fun t d h => by
  simp only [wayV, List.mem_cons, List.mem_nil_iff, or_false] at h
  rcases h with rfl | rfl <;> rfl⟩
structure Region where
  name : List UInt8
  rev : Int
  ways : List Way
def Region.cells (r : Region) : List V := [.str r.name, .int .i64 r.rev, .slice (r.ways.map wayV)]
def Region.v (r : Region) : V := .agg r.cells
def Way.bad (w : Way) : Prop := w.vid < 1 ∨ 4094 < w.vid ∨ w.tree < 1 ∨ 15 < w.tree
instance wayBadDec (w : Way) : Decidable w.bad := by unfold Way.bad; infer_instance
def waysW (last : Int) : List Way → Int
  | [] => 0
  | w :: r => if w.bad then 3 else if w.vid ≤ last then 2 else waysW w.vid r
def okC (c : UInt8) : Bool := 32 ≤ c.toNat && c.toNat ≤ 126
def Region.wrong (r : Region) : Int :=
  if r.name.length < 1 ∨ 32 < r.name.length then 7 else if r.name.all okC = false then 7 else if r.rev < 0 ∨ 65535 < r.rev then 3 else waysW 0 r.ways
structure Region.right (r : Region) : Prop where
  n1 : 1 ≤ r.name.length
  n2 : r.name.length ≤ 32
  nc : r.name.all okC = true
  r0 : 0 ≤ r.rev
  r1 : r.rev ≤ 65535
  w : ∀ w ∈ r.ways, ¬ w.bad
  s : r.ways.Pairwise (fun a b => a.vid < b.vid)
  l : r.ways.length ≤ 4094
theorem waysW_zero : ∀ (ws : List Way) (last : Int), 0 ≤ last → last ≤ 4094 → waysW last ws = 0 → (∀ w ∈ ws, ¬ w.bad ∧ last < w.vid) ∧ ws.Pairwise (fun a b => a.vid < b.vid) ∧ (ws.length : Int) ≤ 4094 - last
  | [], last, _, _, _ => by simp; omega
  | w :: r, last, h1, h2, h => by
    rw [waysW] at h
    split at h
    · cases h
    · rename_i hb
      split at h
      · cases h
      · rename_i hl
        have hb' := hb
        unfold Way.bad at hb'
        obtain ⟨k1, k2, k3⟩ := waysW_zero r w.vid (by omega) (by omega) h
        refine ⟨fun u hu => ?_, List.pairwise_cons.2 ⟨fun u hu => (k1 u hu).2, k2⟩, by simp; omega⟩
        rcases List.mem_cons.1 hu with rfl | hu
        · exact ⟨hb, by omega⟩
        · exact ⟨(k1 u hu).1, by have := (k1 u hu).2; omega⟩
theorem Region.right_of {r : Region} (h : r.wrong = 0) : r.right := by
  unfold Region.wrong at h
  split at h
  · cases h
  · split at h
    · cases h
    · split at h
      · cases h
      · rename_i a b c
        obtain ⟨k1, k2, k3⟩ := waysW_zero _ _ (by decide) (by decide) h
        exact ⟨by omega, by omega, by simpa using b, by omega, by omega, fun w hw => (k1 w hw).1, k2, by omega⟩
end Go.Proofs.Ytkppkgahdoglpaa
namespace Go.Proofs.Ytkppkgahdoglpaa
open Go.RowKit
def lastV (ws : List Way) : Nat → Int
  | 0 => 0
  | k + 1 => (ws[k]?.map Way.vid).getD 0
theorem all_take {l : List UInt8} {k : Nat} {c : UInt8} (h : l[k]? = some c) : (l.take (k + 1)).all okC = ((l.take k).all okC && okC c) := by
  rw [List.take_add_one, h, List.all_append]
  simp
theorem not_all {l : List UInt8} {k : Nat} {c : UInt8} (h : l[k]? = some c) (hc : okC c = false) : l.all okC = false := by
  rw [Bool.eq_false_iff]
  intro ha
  have := List.all_eq_true.1 ha c (List.mem_of_getElem? h)
  rw [hc] at this
  cases this
attribute [local irreducible] SStep DW DWin DOps thenQ inBlk loopQ retQ retQG FnF FnG Wk IntKind.wrap IntKind.andI IntKind.orI IntKind.xorI IntKind.andNotI IntKind.shlI IntKind.shrI
set_option maxHeartbeats 2000000 in
theorem region_Wrong (r : Region) (hl : r.ways.length ≤ 9223372036854775807) : FnF Try.prog 54 [r.v] (.int .i64 r.wrong) := by
  refine fnF_of Try.func54 rfl rfl rfl ?_
  simp only [envOf]
  by_cases ha : r.name.length < 1
  · repeat' (first
    | (apply Stp.go; case a => constructor)
    | refine blk_hit rfl ?_ | refine blk_miss rfl ?_ | refine dnilD (by kernel_rfl) ?_ | refine DW_cond_t rfl ?_ | refine DW_cond_f rfl ?_
    | refine dpOff rfl rfl ?_
    | ((first | apply dX rfl | apply dXon rfl rfl | apply dpMay rfl rfl (by intro h; first | trivial | exact ⟨h, trivial⟩ | exact ⟨h, h, trivial⟩ | exact ⟨h, h, h, trivial⟩)); (case h => ((try intro hg); first | exact as_bool (S_lss rfl rfl) (decide_eq_true (by omega : (r.name.length : Int) < 1)) | exact S_al rfl | exact S_bx rfl rfl | exact S_store rfl rfl rfl rfl rfl rfl | (apply Pu.ok; repeat' (first | rfl | exact .inK (by simp only [InK]; omega) | exact .inK (by simp only [InK]; simp at hg; omega) | exact .wr | constructor | decide | omega)))); (try case hp => constructor))
    | refine dpickAnd rfl rfl rfl rfl rfl ?_ | refine dpickOr rfl rfl rfl rfl rfl ?_
    | fail)
    refine ret1 rfl (.inl rfl) ?_
    congr 1; unfold Region.wrong
    rw [if_pos (.inl ha)]
  by_cases hb2 : 32 < r.name.length
  · repeat' (first
    | (apply Stp.go; case a => constructor)
    | refine blk_hit rfl ?_ | refine blk_miss rfl ?_ | refine dnilD (by kernel_rfl) ?_ | refine DW_cond_t rfl ?_ | refine DW_cond_f rfl ?_
    | refine dpOff rfl rfl ?_
    | ((first | apply dX rfl | apply dXon rfl rfl | apply dpMay rfl rfl (by intro h; first | trivial | exact ⟨h, trivial⟩ | exact ⟨h, h, trivial⟩ | exact ⟨h, h, h, trivial⟩)); (case h => ((try intro hg); first | exact as_bool (S_lss rfl rfl) (decide_eq_false (by omega : ¬ (r.name.length : Int) < 1)) | exact as_bool (S_gtr rfl rfl) (decide_eq_true (by omega : (32 : Int) < (r.name.length : Int))) | exact S_al rfl | exact S_bx rfl rfl | exact S_store rfl rfl rfl rfl rfl rfl | (apply Pu.ok; repeat' (first | rfl | exact .inK (by simp only [InK]; omega) | exact .inK (by simp only [InK]; simp at hg; omega) | exact .wr | constructor | decide | omega)))); (try case hp => constructor))
    | refine dpickAnd rfl rfl rfl rfl rfl ?_ | refine dpickOr rfl rfl rfl rfl rfl ?_
    | fail)
    refine ret1 rfl (.inl rfl) ?_
    congr 1; unfold Region.wrong
    rw [if_pos (.inr hb2)]
  repeat' (first
    | (apply Stp.go; case a => constructor)
    | refine blk_hit rfl ?_ | refine blk_miss rfl ?_ | refine dnilD (by kernel_rfl) ?_ | refine DW_cond_t rfl ?_ | refine DW_cond_f rfl ?_
    | refine dpOff rfl rfl ?_
    | ((first | apply dX rfl | apply dXon rfl rfl | apply dpMay rfl rfl (by intro h; first | trivial | exact ⟨h, trivial⟩ | exact ⟨h, h, trivial⟩ | exact ⟨h, h, h, trivial⟩)); (case h => ((try intro hg); first | exact as_bool (S_lss rfl rfl) (decide_eq_false (by omega : ¬ (r.name.length : Int) < 1)) | exact as_bool (S_gtr rfl rfl) (decide_eq_false (by omega : ¬ (32 : Int) < (r.name.length : Int))) | exact S_al rfl | exact S_bx rfl rfl | exact S_store rfl rfl rfl rfl rfl rfl | (apply Pu.ok; repeat' (first | rfl | exact .inK (by simp only [InK]; omega) | exact .inK (by simp only [InK]; simp at hg; omega) | exact .wr | constructor | decide | omega)))); (try case hp => constructor))
    | refine dpickAnd rfl rfl rfl rfl rfl ?_ | refine dpickOr rfl rfl rfl rfl rfl ?_
    | fail)
  refine DW_loop (fun k : Nat => ⟨[(1, .ptr 1 0), (18, .dat true (.int .i64 r.name.length)), (19, .dat true (.int .i64 k))], [(1, .cells false true (r.cells.map (.dat false)))], 86⟩)
    (fun k => k ≤ r.name.length ∧ (r.name.take k).all okC = true) (fun k => r.name.length - k) 0 ⟨Nat.zero_le _, rfl⟩
    (Wk_g some rfl rfl (by (repeat' (first | exact trivial | rfl | exact listLe_map _ | exact ⟨_, rfl, .inl rfl⟩ | exact ⟨_, rfl, .inr (.inl rfl)⟩ | exact ⟨_, rfl, .inr (.inr rfl)⟩ | refine ⟨_, _, rfl, rfl, ?_⟩ | exact ⟨_, rfl, rfl⟩ | exact ⟨_, _, _, _, rfl, rfl, rfl⟩ | exact ⟨_, rfl⟩ | exact ⟨_, _, rfl⟩ | apply And.intro)))) (fun k hR => ?_)
  obtain ⟨hk, hall⟩ := hR
  have hnn : ¬ (r.name.length < 1 ∨ 32 < r.name.length) := by omega
  by_cases hlt : k < r.name.length
  · have hx : r.name[(k : Int).toNat]? = some r.name[k] := by simp [hlt]
    have hx' : r.name[k]? = some r.name[k] := by simp [hlt]
    have hat := all_take hx'
    generalize r.name[k] = c at hx hx' hat
    have hc : okC c = false ↔ ((c.toNat : Int) < 32 ∨ (126 : Int) < c.toNat) := by unfold okC; simp; omega
    repeat' (first
    | (apply Stp.go; case a => constructor)
    | refine blk_hit rfl ?_ | refine blk_miss rfl ?_ | refine dnilD (by kernel_rfl) ?_ | refine DW_cond_t rfl ?_ | refine DW_cond_f rfl ?_
    | refine DW_cond rfl (fun hb => ?_) (fun hb => ?_)
    | refine dpOff rfl rfl ?_
    | ((first | apply dX rfl | apply dXon rfl rfl | apply dpMay rfl rfl (by intro h; first | trivial | exact ⟨h, trivial⟩ | exact ⟨h, h, trivial⟩ | exact ⟨h, h, h, trivial⟩)); (case h => ((try intro hg); first | exact as_bool (S_lss rfl rfl) (decide_eq_true (by omega : (k : Int) < (r.name.length : Int))) | exact S_ix_str Try.underlying9 rfl rfl (by omega) hx | exact S_al rfl | exact S_bx rfl rfl | exact S_store rfl rfl rfl rfl rfl rfl | (apply Pu.ok; repeat' (first | rfl | exact .inK (by simp only [InK]; omega) | exact .inK (by simp only [InK]; simp at hg; omega) | exact .wr | constructor | decide | omega)))); (try case hp => constructor))
    | refine dpickAnd rfl rfl rfl rfl rfl ?_ | refine dpickOr rfl rfl rfl rfl rfl ?_
    | fail)
    · refine ret1 rfl (.inl rfl) ?_
      simp only [Bool.or_eq_true, decide_eq_true_eq] at hb
      congr 1; unfold Region.wrong
      rw [if_neg hnn, if_pos (not_all hx' (hc.2 hb))]
    · simp only [Bool.or_eq_false_iff, decide_eq_false_iff_not] at hb
      refine loop_again (k + 1) ⟨hlt, ?_⟩ (by omega) (Wk_g some rfl rfl (by (repeat' (first | exact trivial | rfl | exact listLe_map _ | exact ⟨_, rfl, .inl rfl⟩ | exact ⟨_, rfl, .inr (.inl rfl)⟩ | exact ⟨_, rfl, .inr (.inr rfl)⟩ | refine ⟨_, _, rfl, rfl, ?_⟩ | exact ⟨_, rfl, rfl⟩ | exact ⟨_, _, _, _, rfl, rfl, rfl⟩ | exact ⟨_, rfl⟩ | exact ⟨_, _, rfl⟩ | apply And.intro))))
      rw [hat, hall]
      cases ho : okC c with
      | true => rfl
      | false => have := hc.1 ho; omega
  · rw [List.take_of_length_le (by omega)] at hall
    have hall' : ¬ r.name.all okC = false := by rw [hall]; simp
    by_cases h0 : r.rev < 0
    · repeat' (first
    | (apply Stp.go; case a => constructor)
    | refine blk_hit rfl ?_ | refine blk_miss rfl ?_ | refine dnilD (by kernel_rfl) ?_ | refine DW_cond_t rfl ?_ | refine DW_cond_f rfl ?_
    | refine dpOff rfl rfl ?_
    | ((first | apply dX rfl | apply dXon rfl rfl | apply dpMay rfl rfl (by intro h; first | trivial | exact ⟨h, trivial⟩ | exact ⟨h, h, trivial⟩ | exact ⟨h, h, h, trivial⟩)); (case h => ((try intro hg); first | exact as_bool (S_lss rfl rfl) (decide_eq_false (by omega : ¬ (k : Int) < (r.name.length : Int))) | exact as_bool (S_lss rfl rfl) (decide_eq_true h0) | exact S_al rfl | exact S_bx rfl rfl | exact S_store rfl rfl rfl rfl rfl rfl | (apply Pu.ok; repeat' (first | rfl | exact .inK (by simp only [InK]; omega) | exact .inK (by simp only [InK]; simp at hg; omega) | exact .wr | constructor | decide | omega)))); (try case hp => constructor))
    | refine dpickAnd rfl rfl rfl rfl rfl ?_ | refine dpickOr rfl rfl rfl rfl rfl ?_
    | fail)
      refine ret1 rfl (.inl rfl) ?_
      congr 1; unfold Region.wrong
      rw [if_neg hnn, if_neg hall', if_pos (.inl h0)]
    by_cases h6 : 65535 < r.rev
    · repeat' (first
    | (apply Stp.go; case a => constructor)
    | refine blk_hit rfl ?_ | refine blk_miss rfl ?_ | refine dnilD (by kernel_rfl) ?_ | refine DW_cond_t rfl ?_ | refine DW_cond_f rfl ?_
    | refine dpOff rfl rfl ?_
    | ((first | apply dX rfl | apply dXon rfl rfl | apply dpMay rfl rfl (by intro h; first | trivial | exact ⟨h, trivial⟩ | exact ⟨h, h, trivial⟩ | exact ⟨h, h, h, trivial⟩)); (case h => ((try intro hg); first | exact as_bool (S_lss rfl rfl) (decide_eq_false (by omega : ¬ (k : Int) < (r.name.length : Int))) | exact as_bool (S_lss rfl rfl) (decide_eq_false h0) | exact as_bool (S_gtr rfl rfl) (decide_eq_true h6) | exact S_al rfl | exact S_bx rfl rfl | exact S_store rfl rfl rfl rfl rfl rfl | (apply Pu.ok; repeat' (first | rfl | exact .inK (by simp only [InK]; omega) | exact .inK (by simp only [InK]; simp at hg; omega) | exact .wr | constructor | decide | omega)))); (try case hp => constructor))
    | refine dpickAnd rfl rfl rfl rfl rfl ?_ | refine dpickOr rfl rfl rfl rfl rfl ?_
    | fail)
      refine ret1 rfl (.inl rfl) ?_
      congr 1; unfold Region.wrong
      rw [if_neg hnn, if_neg hall', if_pos (.inr h6)]
    have hw0 : r.wrong = waysW 0 r.ways := by unfold Region.wrong; rw [if_neg hnn, if_neg hall', if_neg (by omega)]
    rw [hw0]
    have hml : (r.ways.map wayV).length = r.ways.length := by simp
    repeat' (first
    | (apply Stp.go; case a => constructor)
    | refine blk_hit rfl ?_ | refine blk_miss rfl ?_ | refine dnilD (by kernel_rfl) ?_ | refine DW_cond_t rfl ?_ | refine DW_cond_f rfl ?_
    | refine dpOff rfl rfl ?_
    | ((first | apply dX rfl | apply dXon rfl rfl | apply dpMay rfl rfl (by intro h; first | trivial | exact ⟨h, trivial⟩ | exact ⟨h, h, trivial⟩ | exact ⟨h, h, h, trivial⟩)); (case h => ((try intro hg); first | exact as_bool (S_lss rfl rfl) (decide_eq_false (by omega : ¬ (k : Int) < (r.name.length : Int))) | exact as_bool (S_lss rfl rfl) (decide_eq_false h0) | exact as_bool (S_gtr rfl rfl) (decide_eq_false h6) | exact S_al rfl | exact S_bx rfl rfl | exact S_store rfl rfl rfl rfl rfl rfl | (apply Pu.ok; repeat' (first | rfl | exact .inK (by simp only [InK]; omega) | exact .inK (by simp only [InK]; simp at hg; omega) | exact .wr | constructor | decide | omega)))); (try case hp => constructor))
    | refine dpickAnd rfl rfl rfl rfl rfl ?_ | refine dpickOr rfl rfl rfl rfl rfl ?_
    | fail)
    refine DW_loop (fun k : Nat => ⟨[(1, .ptr 1 0), (44, .dat false (.slice (r.ways.map wayV))), (45, .dat true (.int .i64 (r.ways.map wayV).length)), (46, .dat true (.int .i64 k))], [(1, .cells false true (r.cells.map (.dat false)))], 86⟩)
      (fun k => k ≤ r.ways.length ∧ waysW 0 r.ways = waysW (lastV r.ways k) (r.ways.drop k)) (fun k => r.ways.length - k) 0 ⟨Nat.zero_le _, rfl⟩
      (Wk_g some rfl rfl (by (repeat' (first | exact trivial | rfl | exact listLe_map _ | exact ⟨_, rfl, .inl rfl⟩ | exact ⟨_, rfl, .inr (.inl rfl)⟩ | exact ⟨_, rfl, .inr (.inr rfl)⟩ | refine ⟨_, _, rfl, rfl, ?_⟩ | exact ⟨_, rfl, rfl⟩ | exact ⟨_, _, _, _, rfl, rfl, rfl⟩ | exact ⟨_, rfl⟩ | exact ⟨_, _, rfl⟩ | apply And.intro)))) (fun k hR => ?_)
    obtain ⟨hk, hw⟩ := hR
    by_cases hlt : k < r.ways.length
    · have hx : r.ways[(k : Int).toNat]? = some r.ways[k] := by simp [hlt]
      have hn : r.ways.drop k = r.ways[k] :: r.ways.drop (k + 1) := List.drop_eq_getElem_cons hlt
      have hlast : lastV r.ways (k + 1) = (r.ways[k]).vid := by simp [lastV, hlt]
      generalize r.ways[k] = t at hx hn hlast
      rw [hn, waysW] at hw
      rcases k with - | j
      · have h00 : lastV r.ways 0 = 0 := rfl
        repeat' (first
    | (apply Stp.go; case a => constructor)
    | refine blk_hit rfl ?_ | refine blk_miss rfl ?_ | refine dnilD (by kernel_rfl) ?_ | refine DW_cond_t rfl ?_ | refine DW_cond_f rfl ?_
    | refine DW_cond rfl (fun hb => ?_) (fun hb => ?_)
    | refine dpOff rfl rfl ?_
    | ((first | apply dX rfl | apply dXon rfl rfl | apply dpMay rfl rfl (by intro h; first | trivial | exact ⟨h, trivial⟩ | exact ⟨h, h, trivial⟩ | exact ⟨h, h, h, trivial⟩)); (case h => ((try intro hg); first | exact as_bool (S_lss rfl rfl) (decide_eq_true (by omega : ((0 : Nat) : Int) < ((r.ways.map wayV).length : Int))) | exact S_ixM rfl rfl (by omega) hx | exact as_bool (b := false) (S_gtr rfl rfl) rfl | exact S_al rfl | exact S_bx rfl rfl | exact S_store rfl rfl rfl rfl rfl rfl | (apply Pu.ok; repeat' (first | rfl | exact .inK (by simp only [InK]; omega) | exact .inK (by simp only [InK]; simp at hg; omega) | exact .wr | constructor | decide | omega)))); (try case hp => constructor))
    | refine dpickAnd rfl rfl rfl rfl rfl ?_ | refine dpickOr rfl rfl rfl rfl rfl ?_
    | fail)
        · refine ret1 rfl (.inl rfl) ?_
          simp only [Bool.or_eq_true, decide_eq_true_eq] at hb
          rw [hw, if_pos (by unfold Way.bad; omega)]
        · simp only [Bool.or_eq_false_iff, decide_eq_false_iff_not] at hb
          refine loop_again (0 + 1) ⟨hlt, ?_⟩ (by omega) (Wk_g some rfl rfl (by (repeat' (first | exact trivial | rfl | exact listLe_map _ | exact ⟨_, rfl, .inl rfl⟩ | exact ⟨_, rfl, .inr (.inl rfl)⟩ | exact ⟨_, rfl, .inr (.inr rfl)⟩ | refine ⟨_, _, rfl, rfl, ?_⟩ | exact ⟨_, rfl, rfl⟩ | exact ⟨_, _, _, _, rfl, rfl, rfl⟩ | exact ⟨_, rfl⟩ | exact ⟨_, _, rfl⟩ | apply And.intro))))
          rw [hw, if_neg (by unfold Way.bad; omega), h00, if_neg (by omega), hlast]
      · have hj : j < r.ways.length := by omega
        have hx2 : r.ways[(((j + 1 : Nat) : Int) - 1).toNat]? = some r.ways[j] := by
          rw [show (((j + 1 : Nat) : Int) - 1).toNat = j by omega]; exact List.getElem?_eq_getElem hj
        have h00 : lastV r.ways (j + 1) = (r.ways[j]).vid := by simp [lastV, hj]
        generalize r.ways[j] = q at hx2 h00
        repeat' (first
    | (apply Stp.go; case a => constructor)
    | refine blk_hit rfl ?_ | refine blk_miss rfl ?_ | refine dnilD (by kernel_rfl) ?_ | refine DW_cond_t rfl ?_ | refine DW_cond_f rfl ?_
    | refine DW_cond rfl (fun hb => ?_) (fun hb => ?_)
    | refine dpOff rfl rfl ?_
    | ((first | apply dX rfl | apply dXon rfl rfl | apply dpMay rfl rfl (by intro h; first | trivial | exact ⟨h, trivial⟩ | exact ⟨h, h, trivial⟩ | exact ⟨h, h, h, trivial⟩)); (case h => ((try intro hg); first | exact as_bool (S_lss rfl rfl) (decide_eq_true (by omega : ((j + 1 : Nat) : Int) < ((r.ways.map wayV).length : Int))) | exact S_ixM rfl rfl (by omega) hx | exact S_ixM rfl rfl (by omega) hx2 | exact as_bool (S_gtr rfl rfl) (decide_eq_true (by omega : (0 : Int) < ((j + 1 : Nat) : Int))) | exact S_al rfl | exact S_bx rfl rfl | exact S_store rfl rfl rfl rfl rfl rfl | (apply Pu.ok; repeat' (first | rfl | exact .inK (by simp only [InK]; omega) | exact .inK (by simp only [InK]; simp at hg; omega) | exact .wr | constructor | decide | omega)))); (try case hp => constructor))
    | refine dpickAnd rfl rfl rfl rfl rfl ?_ | refine dpickOr rfl rfl rfl rfl rfl ?_
    | fail)
        · refine ret1 rfl (.inl rfl) ?_
          simp only [Bool.or_eq_true, decide_eq_true_eq] at hb
          rw [hw, if_pos (by unfold Way.bad; omega)]
        · rename_i hb1
          simp only [Bool.or_eq_false_iff, decide_eq_true_eq, decide_eq_false_iff_not] at hb hb1
          refine ret1 rfl (.inl rfl) ?_
          rw [hw, if_neg (by unfold Way.bad; omega), h00, if_pos (by omega)]
        · rename_i hb1
          simp only [Bool.or_eq_false_iff, decide_eq_false_iff_not] at hb hb1
          refine loop_again (j + 1 + 1) ⟨hlt, ?_⟩ (by omega) (Wk_g some rfl rfl (by (repeat' (first | exact trivial | rfl | exact listLe_map _ | exact ⟨_, rfl, .inl rfl⟩ | exact ⟨_, rfl, .inr (.inl rfl)⟩ | exact ⟨_, rfl, .inr (.inr rfl)⟩ | refine ⟨_, _, rfl, rfl, ?_⟩ | exact ⟨_, rfl, rfl⟩ | exact ⟨_, _, _, _, rfl, rfl, rfl⟩ | exact ⟨_, rfl⟩ | exact ⟨_, _, rfl⟩ | apply And.intro))))
          rw [hw, if_neg (by unfold Way.bad; omega), h00, if_neg (by omega), hlast]
    · repeat' (first
    | (apply Stp.go; case a => constructor)
    | refine blk_hit rfl ?_ | refine blk_miss rfl ?_ | refine dnilD (by kernel_rfl) ?_ | refine DW_cond_t rfl ?_ | refine DW_cond_f rfl ?_
    | refine dpOff rfl rfl ?_
    | ((first | apply dX rfl | apply dXon rfl rfl | apply dpMay rfl rfl (by intro h; first | trivial | exact ⟨h, trivial⟩ | exact ⟨h, h, trivial⟩ | exact ⟨h, h, h, trivial⟩)); (case h => ((try intro hg); first | exact as_bool (S_lss rfl rfl) (decide_eq_false (by omega : ¬ (k : Int) < ((r.ways.map wayV).length : Int))) | exact S_al rfl | exact S_bx rfl rfl | exact S_store rfl rfl rfl rfl rfl rfl | (apply Pu.ok; repeat' (first | rfl | exact .inK (by simp only [InK]; omega) | exact .inK (by simp only [InK]; simp at hg; omega) | exact .wr | constructor | decide | omega)))); (try case hp => constructor))
    | refine dpickAnd rfl rfl rfl rfl rfl ?_ | refine dpickOr rfl rfl rfl rfl rfl ?_
    | fail)
      refine ret1 rfl (.inl rfl) ?_
      rw [hw, List.drop_eq_nil_of_le (by omega)]
      rfl
end Go.Proofs.Ytkppkgahdoglpaa
