/- Contracts: the document's Better, Compare, Over, Sorted, Same, Role, Choose; vec.Best. -/
import Derived.Test.YtkppkgahdoglpaatbFrm
import Derived.Test.YtkppkgahdoglpaatcPlO
import Derived.Test.YtkppkgahdoglpaatcChM
import Derived.Test.YtkppkgahdoglpaatbInp
import Derived.Test.YtkppkgahdoglpaatcPlM
import Derived.Test.YtkppkgahdoglpaateChoose
namespace Go.Proofs.Ytkppkgahdoglpaa
open Go.RowKit
attribute [local irreducible] SStep DW DWS DWin DOps thenQ inBlk loopQ endK retQ retQG FnF FnG FnI FnM Wk IntKind.wrap IntKind.andI IntKind.orI IntKind.xorI IntKind.andNotI IntKind.shlI IntKind.shrI
theorem ownLe {s e : Mem} {ρ : Nat → Option Nat} {g g0 ver0 ver lo len sz : Nat} {frz nw : Bool} {xs : List (List V)} (hρ : ρ g = some g0) (hs : s.at g0 = .row ver0 frz nw sz xs) (he : e.at g = .row ver frz nw sz xs) : slotLe s e ρ (.own g0 ver0 lo len) (.own g ver lo len) := by
  show (match ρ g with
    | some g0' => ∃ r, ownView s (.own g0 ver0 lo len) = some (g0', r) ∧ ownView e (.own g ver lo len) = some (g, r)
    | none => (D.own g0 ver0 lo len) = .nil ∧ ∃ nw sz, ownView e (.own g ver lo len) = some (g, 0, 0, false, nw, sz, []))
  rw [hρ]
  refine ⟨(lo, len, frz, nw, sz, xs), ?_, ?_⟩ <;> simp only [ownView, hs, he] <;> rw [show Nat.beq _ _ = true from Nat.beq_refl _] <;> rfl
def oMem (says : List Vec) (ages : List Int) (os : List Offer) : Mem :=
  [(6, .cells false true [.dat false (.slice (says.map Vec.cells))]), (7, .cells false true [.dat false (.slice (ages.map intV1))]), (9, .cells false true [.own 26 os.length 0 os.length]), (26, .row os.length false true 7 (os.map Offer.cells))]
def offerAt (says : List Vec) (ages : List Int) (e : End) : Offer := ⟨e.port, e.cost, gv ages e.other.toNat, { (says[e.other.toNat]?).getD .zero with port := e.oport }⟩
set_option maxHeartbeats 4000000 in
theorem ref6_add (says : List Vec) (ages : List Int) (os : List Offer) (e : End) (h0 : 0 ≤ e.other) (hs : e.other < says.length) (ha : e.other < ages.length) (ho : os.length ≤ 1000) :
    FnM Try.prog 65 ([.dat false (.int .i64 e.port), .dat false (.int .i64 e.cost), .dat false (.int .i64 e.other), .dat false (.int .i64 e.oport)] ++ [.ptr 6 0, .ptr 9 0, .ptr 7 0])
      (oMem says ages os) (.dat true (pack [])) (oMem says ages (os ++ [offerAt says ages e])) := by
  refine fnM_ofK [6, 7, 9, 26] Try.func65 rfl rfl rfl rfl rfl ?_
  simp only [envD, oMem, List.cons_append, List.nil_append]
  have hx : says[e.other.toNat]? = some says[e.other.toNat] := List.getElem?_eq_getElem (by omega)
  have hy : ages[e.other.toNat]? = some (gv ages e.other.toNat) := gv_of (by omega)
  have hof : offerAt says ages e = ⟨e.port, e.cost, gv ages e.other.toNat, { says[e.other.toNat] with port := e.oport }⟩ := by unfold offerAt; rw [hx]; rfl
  generalize says[e.other.toNat] = v at hx hof
  repeat' (first
    | refine DWS_seq ?_
    | refine DWS_region ?_
    | refine DWS_draw ?_
    | refine dnilP ?_
    | refine dnilD (by kernel_rfl) ?_
    | refine then_normal ?_
    | refine then_exit ?_
    | refine then_ret ?_
    | refine DWS_block ?_
    | refine blk_normal ?_
    | refine blk_ret ?_
    | refine blk_hit rfl ?_
    | refine blk_miss rfl ?_
    | refine loopS_exit ?_
    | refine loopS_ret ?_
    | refine DWS_ret ?_
    | refine DWS_exit ?_
    | refine DWS_skip ?_
    | refine DWS_cond_t rfl ?_
    | refine DWS_cond_f rfl ?_
    | (apply dpC rfl; case h => first | (apply Pu.ok; repeat' (first | rfl | exact .inK (by simp only [InK]; omega) | exact .inK (by simp only [InK]; simp at hg; omega) | exact .wr | constructor | decide | omega)))
    | (apply dmC rfl; case h => first | exact S_appM (f := Offer.cells) (us := os) (bs := [offerAt says ages e]) rfl rfl (.dat _ _) (by rw [hof]; rfl) rfl (.inr ⟨rfl, inferInstance⟩) rfl (by simp only [List.length_singleton]; omega))
    | refine dpOff rfl rfl ?_
    | (apply dmOn rfl rfl; case h => first | exact S_appM (f := Offer.cells) (us := os) (bs := [offerAt says ages e]) rfl rfl (.dat _ _) (by rw [hof]; rfl) rfl (.inr ⟨rfl, inferInstance⟩) rfl (by simp only [List.length_singleton]; omega))
    | ((first | apply dp rfl | apply dpOn rfl rfl | apply dpMay rfl rfl (by first | exact fun _ => trivial | exact fun h => ⟨h, trivial⟩ | exact fun h => ⟨h, h, trivial⟩ | exact fun h => ⟨h, h, h, trivial⟩)); case h => ((try intro hg); first | exact S_ixM rfl rfl h0 hx | exact S_ixM rfl rfl h0 hy | exact S_appM (f := Offer.cells) (us := os) (bs := [offerAt says ages e]) rfl rfl (.dat _ _) (by rw [hof]; rfl) rfl (.inr ⟨rfl, inferInstance⟩) rfl (by simp only [List.length_singleton]; omega) | (apply Pu.ok; repeat' (first | rfl | exact .inK (by simp only [InK]; omega) | exact .inK (by simp only [InK]; simp at hg; omega) | exact .wr | constructor | decide | omega))))
    | refine dpickAnd rfl rfl rfl rfl rfl ?_ | refine dpickOr rfl rfl rfl rfl rfl ?_
    | (apply dt rfl; case h => first | exact S_alloc _ rfl | exact S_box _ rfl rfl)
    | (apply ds; case h => first | exact S_store rfl rfl rfl rfl rfl rfl)
    | (apply dm rfl; case h => first | exact M_d rfl | exact S_alloc 2001 rfl | exact S_alloc 2002 rfl | exact S_alloc 2003 rfl | exact S_alloc 2004 rfl | exact S_alloc 2005 rfl)
    | fail)
  refine endK_n .nil rfl ?_
  show [_, _, _, _] = [_, _, _, _]
  rw [List.length_append]
  rfl
set_option maxHeartbeats 4000000 in
theorem ref6_Offers (ls : List Link) (hls : ls.length ≤ 40) (b : Nat) (says : List Vec) (ages : List Int) (hla : ages.length = says.length) (hk : ∀ l ∈ ls, l.ok says.length) :
    FnF Try.prog 42 [.slice (ls.map linkV), .int .i64 b, .slice (says.map Vec.cells), .slice (ages.map intV1)] (offers ((rawE ls b).map (offerAt says ages))) := by
  refine fnF_of Try.func42 rfl rfl rfl ?_
  simp only [envOf]
  have hml : (ls.map linkV).length = ls.length := by simp
  repeat' (first
    | (apply Stp.go; case a => constructor)
    | refine blk_hit rfl ?_ | refine blk_miss rfl ?_ | refine dnilD (by kernel_rfl) ?_ | refine DW_cond_t rfl ?_ | refine DW_cond_f rfl ?_
    | refine dpOff rfl rfl ?_
    | ((first | apply dX rfl | apply dXon rfl rfl | apply dpMay rfl rfl (by intro h; first | trivial | exact ⟨h, trivial⟩ | exact ⟨h, h, trivial⟩ | exact ⟨h, h, h, trivial⟩)); (case h => ((try intro hg); first | exact S_makeFnd rfl rfl | exact S_al rfl | exact S_bx rfl rfl | exact S_store rfl rfl rfl rfl rfl rfl | (apply Pu.ok; repeat' (first | rfl | exact .inK (by simp only [InK]; omega) | exact .inK (by simp only [InK]; simp at hg; omega) | exact .wr | constructor | decide | omega)))); (try case hp => constructor))
    | refine dpickAnd rfl rfl rfl rfl rfl ?_ | refine dpickOr rfl rfl rfl rfl rfl ?_
    | fail)
  refine DW_loop (fun q : Nat × List Offer => ⟨[(1, .dat false (.int .i64 b)), (9, .ptr 9 0), (10, .fnd 65 [.ptr 6 0, .ptr 9 0, .ptr 7 0]), (14, .dat false (.slice (ls.map linkV))), (15, .dat true (.int .i64 (ls.map linkV).length)), (16, .dat true (.int .i64 q.1))], oMem says ages q.2, 50⟩)
    (fun q => q.1 ≤ ls.length ∧ q.2 = (rawE (ls.take q.1) b).map (offerAt says ages) ∧ q.2.length ≤ 2 * q.1) (fun q => ls.length - q.1) (0, []) ⟨Nat.zero_le _, rfl, Nat.le_refl _⟩
    (Wk_g (fun g => if g = 26 then none else some g) rfl rfl (by (repeat' (first | exact trivial | rfl | exact listLe_map _ | exact ⟨_, rfl, .inl rfl⟩ | exact ⟨_, rfl, .inr (.inl rfl)⟩ | exact ⟨_, rfl, .inr (.inr rfl)⟩ | refine ⟨_, _, rfl, rfl, ?_⟩ | exact ⟨_, rfl, rfl⟩ | exact ⟨_, _, _, _, rfl, rfl, rfl⟩ | exact ⟨_, rfl⟩ | exact ⟨_, _, rfl⟩ | refine ⟨_, (rfl : D.fnd _ _ = D.fnd _ _), ?_⟩ | apply And.intro)))) (fun q hR => ?_)
  obtain ⟨i, os⟩ := q
  obtain ⟨hi, hos, hol⟩ := hR
  simp only at hi hos hol
  dsimp only
  by_cases hlt : i < ls.length
  · have hx : ls[(i : Int).toNat]? = some ls[i] := by simp [hlt]
    have hx' : ls[i]? = some ls[i] := by simp [hlt]
    have hkl := hk ls[i] (List.getElem_mem hlt)
    generalize ls[i] = l at hx hx' hkl
    obtain ⟨k1, k2, k3, k4, _⟩ := hkl
    have hst : (rawE (ls.take (i + 1)) b).map (offerAt says ages) = os ++ (endAt b l).map (offerAt says ages) := by
      unfold rawE at hos ⊢
      rw [List.take_add_one, hx', List.flatMap_append, List.map_append, ← hos]
      simp
    have hc1 := fun os ho => ref6_add says ages os ⟨l.pa, l.cost, l.b, l.pb⟩ k3 k4 (by show l.b < _; omega) ho
    have hc2 := fun os ho => ref6_add says ages os ⟨l.pb, l.cost, l.a, l.pa⟩ k1 k2 (by show l.a < _; omega) ho
    have he : endAt b l = (if l.a = b then [⟨l.pa, l.cost, l.b, l.pb⟩] else []) ++ (if l.b = b then [⟨l.pb, l.cost, l.a, l.pa⟩] else []) := rfl
    by_cases h1 : l.a = b
    · rw [if_pos h1] at he
      by_cases h2 : l.b = b
      · rw [if_pos h2] at he
        repeat' (first
    | refine dstep rfl (.plain rfl (S_callvM [6, 7, 9, 26] rfl (hc1 _ (by omega)) rfl rfl rfl rfl rfl rfl rfl)) ?_
    | refine dstep rfl (.plain rfl (S_callvM [6, 7, 9, 26] rfl (hc2 _ (by (try simp only [List.length_append, List.length_singleton]); omega)) rfl rfl rfl rfl rfl rfl rfl)) ?_
    | (apply Stp.go; case a => constructor)
    | refine blk_hit rfl ?_ | refine blk_miss rfl ?_ | refine dnilD (by kernel_rfl) ?_ | refine DW_cond_t rfl ?_ | refine DW_cond_f rfl ?_
    | refine DW_tD rfl (by omega) ?_ | refine DW_fD rfl (by omega) ?_
    | refine dpOff rfl rfl ?_
    | ((first | apply dX rfl | apply dXon rfl rfl | apply dpMay rfl rfl (by intro h; first | trivial | exact ⟨h, trivial⟩ | exact ⟨h, h, trivial⟩ | exact ⟨h, h, h, trivial⟩)); (case h => ((try intro hg); first | exact S_ixM rfl rfl (by omega) hx | exact S_cT rfl rfl (by constructor) (by omega) | exact S_cF rfl rfl (by constructor) (by omega) | exact S_al rfl | exact S_bx rfl rfl | exact S_store rfl rfl rfl rfl rfl rfl | (apply Pu.ok; repeat' (first | rfl | exact .inK (by simp only [InK]; omega) | exact .inK (by simp only [InK]; simp at hg; omega) | exact .wr | constructor | decide | omega)))); (try case hp => constructor))
    | refine dpickAnd rfl rfl rfl rfl rfl ?_ | refine dpickOr rfl rfl rfl rfl rfl ?_
    | fail)
        refine loop_again (i + 1, os ++ [offerAt says ages ⟨l.pa, l.cost, l.b, l.pb⟩] ++ [offerAt says ages ⟨l.pb, l.cost, l.a, l.pa⟩]) ⟨hlt, ?_, ?_⟩ (by simp only; omega) (Wk_g some rfl rfl (by (repeat' (first | exact ownLe rfl rfl rfl | exact trivial | rfl | exact listLe_map _ | exact ⟨_, rfl, .inl rfl⟩ | exact ⟨_, rfl, .inr (.inl rfl)⟩ | exact ⟨_, rfl, .inr (.inr rfl)⟩ | refine ⟨_, _, rfl, rfl, ?_⟩ | exact ⟨_, rfl, rfl⟩ | exact ⟨_, _, _, _, rfl, rfl, rfl⟩ | exact ⟨_, rfl⟩ | exact ⟨_, _, rfl⟩ | refine ⟨_, (rfl : D.fnd _ _ = D.fnd _ _), ?_⟩ | apply And.intro))))
        · rw [hst, he]; simp
        · simp only [List.length_append, List.length_singleton]; omega
      · rw [if_neg h2] at he
        repeat' (first
    | refine dstep rfl (.plain rfl (S_callvM [6, 7, 9, 26] rfl (hc1 _ (by omega)) rfl rfl rfl rfl rfl rfl rfl)) ?_
    | (apply Stp.go; case a => constructor)
    | refine blk_hit rfl ?_ | refine blk_miss rfl ?_ | refine dnilD (by kernel_rfl) ?_ | refine DW_cond_t rfl ?_ | refine DW_cond_f rfl ?_
    | refine DW_tD rfl (by omega) ?_ | refine DW_fD rfl (by omega) ?_
    | refine dpOff rfl rfl ?_
    | ((first | apply dX rfl | apply dXon rfl rfl | apply dpMay rfl rfl (by intro h; first | trivial | exact ⟨h, trivial⟩ | exact ⟨h, h, trivial⟩ | exact ⟨h, h, h, trivial⟩)); (case h => ((try intro hg); first | exact S_ixM rfl rfl (by omega) hx | exact S_cT rfl rfl (by constructor) (by omega) | exact S_cF rfl rfl (by constructor) (by omega) | exact S_al rfl | exact S_bx rfl rfl | exact S_store rfl rfl rfl rfl rfl rfl | (apply Pu.ok; repeat' (first | rfl | exact .inK (by simp only [InK]; omega) | exact .inK (by simp only [InK]; simp at hg; omega) | exact .wr | constructor | decide | omega)))); (try case hp => constructor))
    | refine dpickAnd rfl rfl rfl rfl rfl ?_ | refine dpickOr rfl rfl rfl rfl rfl ?_
    | fail)
        refine loop_again (i + 1, os ++ [offerAt says ages ⟨l.pa, l.cost, l.b, l.pb⟩]) ⟨hlt, ?_, ?_⟩ (by simp only; omega) (Wk_g some rfl rfl (by (repeat' (first | exact ownLe rfl rfl rfl | exact trivial | rfl | exact listLe_map _ | exact ⟨_, rfl, .inl rfl⟩ | exact ⟨_, rfl, .inr (.inl rfl)⟩ | exact ⟨_, rfl, .inr (.inr rfl)⟩ | refine ⟨_, _, rfl, rfl, ?_⟩ | exact ⟨_, rfl, rfl⟩ | exact ⟨_, _, _, _, rfl, rfl, rfl⟩ | exact ⟨_, rfl⟩ | exact ⟨_, _, rfl⟩ | refine ⟨_, (rfl : D.fnd _ _ = D.fnd _ _), ?_⟩ | apply And.intro))))
        · rw [hst, he]; simp
        · simp only [List.length_append, List.length_singleton]; omega
    · rw [if_neg h1] at he
      by_cases h2 : l.b = b
      · rw [if_pos h2] at he
        repeat' (first
    | refine dstep rfl (.plain rfl (S_callvM [6, 7, 9, 26] rfl (hc2 _ (by (try simp only [List.length_append, List.length_singleton]); omega)) rfl rfl rfl rfl rfl rfl rfl)) ?_
    | (apply Stp.go; case a => constructor)
    | refine blk_hit rfl ?_ | refine blk_miss rfl ?_ | refine dnilD (by kernel_rfl) ?_ | refine DW_cond_t rfl ?_ | refine DW_cond_f rfl ?_
    | refine DW_tD rfl (by omega) ?_ | refine DW_fD rfl (by omega) ?_
    | refine dpOff rfl rfl ?_
    | ((first | apply dX rfl | apply dXon rfl rfl | apply dpMay rfl rfl (by intro h; first | trivial | exact ⟨h, trivial⟩ | exact ⟨h, h, trivial⟩ | exact ⟨h, h, h, trivial⟩)); (case h => ((try intro hg); first | exact S_ixM rfl rfl (by omega) hx | exact S_cT rfl rfl (by constructor) (by omega) | exact S_cF rfl rfl (by constructor) (by omega) | exact S_al rfl | exact S_bx rfl rfl | exact S_store rfl rfl rfl rfl rfl rfl | (apply Pu.ok; repeat' (first | rfl | exact .inK (by simp only [InK]; omega) | exact .inK (by simp only [InK]; simp at hg; omega) | exact .wr | constructor | decide | omega)))); (try case hp => constructor))
    | refine dpickAnd rfl rfl rfl rfl rfl ?_ | refine dpickOr rfl rfl rfl rfl rfl ?_
    | fail)
        refine loop_again (i + 1, os ++ [offerAt says ages ⟨l.pb, l.cost, l.a, l.pa⟩]) ⟨hlt, ?_, ?_⟩ (by simp only; omega) (Wk_g some rfl rfl (by (repeat' (first | exact ownLe rfl rfl rfl | exact trivial | rfl | exact listLe_map _ | exact ⟨_, rfl, .inl rfl⟩ | exact ⟨_, rfl, .inr (.inl rfl)⟩ | exact ⟨_, rfl, .inr (.inr rfl)⟩ | refine ⟨_, _, rfl, rfl, ?_⟩ | exact ⟨_, rfl, rfl⟩ | exact ⟨_, _, _, _, rfl, rfl, rfl⟩ | exact ⟨_, rfl⟩ | exact ⟨_, _, rfl⟩ | refine ⟨_, (rfl : D.fnd _ _ = D.fnd _ _), ?_⟩ | apply And.intro))))
        · rw [hst, he]; simp
        · simp only [List.length_append, List.length_singleton]; omega
      · rw [if_neg h2] at he
        repeat' (first
    | (apply Stp.go; case a => constructor)
    | refine blk_hit rfl ?_ | refine blk_miss rfl ?_ | refine dnilD (by kernel_rfl) ?_ | refine DW_cond_t rfl ?_ | refine DW_cond_f rfl ?_
    | refine DW_tD rfl (by omega) ?_ | refine DW_fD rfl (by omega) ?_
    | refine dpOff rfl rfl ?_
    | ((first | apply dX rfl | apply dXon rfl rfl | apply dpMay rfl rfl (by intro h; first | trivial | exact ⟨h, trivial⟩ | exact ⟨h, h, trivial⟩ | exact ⟨h, h, h, trivial⟩)); (case h => ((try intro hg); first | exact S_ixM rfl rfl (by omega) hx | exact S_cT rfl rfl (by constructor) (by omega) | exact S_cF rfl rfl (by constructor) (by omega) | exact S_al rfl | exact S_bx rfl rfl | exact S_store rfl rfl rfl rfl rfl rfl | (apply Pu.ok; repeat' (first | rfl | exact .inK (by simp only [InK]; omega) | exact .inK (by simp only [InK]; simp at hg; omega) | exact .wr | constructor | decide | omega)))); (try case hp => constructor))
    | refine dpickAnd rfl rfl rfl rfl rfl ?_ | refine dpickOr rfl rfl rfl rfl rfl ?_
    | fail)
        refine loop_again (i + 1, os) ⟨hlt, ?_, ?_⟩ (by simp only; omega) (Wk_g some rfl rfl (by (repeat' (first | exact ownLe rfl rfl rfl | exact trivial | rfl | exact listLe_map _ | exact ⟨_, rfl, .inl rfl⟩ | exact ⟨_, rfl, .inr (.inl rfl)⟩ | exact ⟨_, rfl, .inr (.inr rfl)⟩ | refine ⟨_, _, rfl, rfl, ?_⟩ | exact ⟨_, rfl, rfl⟩ | exact ⟨_, _, _, _, rfl, rfl, rfl⟩ | exact ⟨_, rfl⟩ | exact ⟨_, _, rfl⟩ | refine ⟨_, (rfl : D.fnd _ _ = D.fnd _ _), ?_⟩ | apply And.intro))))
        · rw [hst, he]; simp
        · simp only; omega
  · rw [List.take_of_length_le (by omega)] at hos
    repeat' (first
    | refine DW_seal 8 rfl rfl (by simp) ?_
    | (apply Stp.go; case a => constructor)
    | refine blk_hit rfl ?_ | refine blk_miss rfl ?_ | refine dnilD (by kernel_rfl) ?_ | refine DW_cond_t rfl ?_ | refine DW_cond_f rfl ?_
    | refine DW_tD rfl (by omega) ?_ | refine DW_fD rfl (by omega) ?_
    | refine dpOff rfl rfl ?_
    | ((first | apply dX rfl | apply dXon rfl rfl | apply dpMay rfl rfl (by intro h; first | trivial | exact ⟨h, trivial⟩ | exact ⟨h, h, trivial⟩ | exact ⟨h, h, h, trivial⟩)); (case h => ((try intro hg); first | exact S_cT rfl rfl (by constructor) (by omega) | exact S_cF rfl rfl (by constructor) (by omega) | exact S_al rfl | exact S_bx rfl rfl | exact S_store rfl rfl rfl rfl rfl rfl | (apply Pu.ok; repeat' (first | rfl | exact .inK (by simp only [InK]; omega) | exact .inK (by simp only [InK]; simp at hg; omega) | exact .wr | constructor | decide | omega)))); (try case hp => constructor))
    | refine dpickAnd rfl rfl rfl rfl rfl ?_ | refine dpickOr rfl rfl rfl rfl rfl ?_
    | fail)
    refine ret1 rfl (by first | exact .inl rfl | exact .inr (flat_of rfl)) ?_
    rw [hos]
    rfl
end Go.Proofs.Ytkppkgahdoglpaa
namespace Go.Proofs.Ytkppkgahdoglpaa
open Go.RowKit
def mix {α : Type} (xs ys : List α) (k : Nat) : List α := xs.take k ++ ys.drop k
section
variable {α : Type} {xs ys : List α} {k : Nat} {a : α}
theorem mix_zero : mix xs ys 0 = ys := by simp [mix]
theorem mix_all (h : xs.length = ys.length) (hk : ys.length ≤ k) : mix xs ys k = xs := by unfold mix; rw [List.take_of_length_le (by omega), List.drop_eq_nil_of_le hk, List.append_nil]
theorem mix_len (h : xs.length = ys.length) : (mix xs ys k).length = ys.length := by unfold mix; rw [List.length_append, List.length_take, List.length_drop]; omega
theorem mix_get (h : xs.length = ys.length) : (mix xs ys k)[k]? = ys[k]? := by
  unfold mix
  by_cases hk : k < xs.length
  · rw [List.getElem?_append_right (by rw [List.length_take]; omega), List.length_take, List.getElem?_drop, show k + (k - min k xs.length) = k by omega]
  · rw [List.getElem?_eq_none (by rw [List.length_append, List.length_take, List.length_drop]; omega), List.getElem?_eq_none (by omega)]
theorem mix_set (h : xs.length = ys.length) (ha : xs[k]? = some a) : (mix xs ys k).set k a = mix xs ys (k + 1) := by
  have hk := (List.getElem?_eq_some_iff.1 ha).1
  unfold mix
  rw [List.set_append_right _ _ (by rw [List.length_take]; omega), List.length_take, show k - min k xs.length = 0 by omega, List.drop_eq_getElem_cons (by omega), List.set_cons_zero, List.take_add_one, ha, List.append_assoc]
  rfl
end
def planA (n : Net) (tree : Int) : List Place × (Int × Nat) := if n.wrong.1 ≠ 0 then ([], n.wrong) else if tree < 0 ∨ 15 < tree then ([], (3, 0)) else (planF n tree, (0, 0))
end Go.Proofs.Ytkppkgahdoglpaa
namespace Go.Proofs.Ytkppkgahdoglpaa
open Go.RowKit
def saysI (n : Net) (tree : Int) : List Vec := (List.range n.bridges.length).map fun i => ⟨(sF n tree i).root, 0, idN n tree i, 0⟩
theorem saysI_len (n : Net) (tree : Int) : (saysI n tree).length = n.bridges.length := by simp [saysI]
theorem saysF_len (n : Net) (tree : Int) : (saysF n tree).length = n.bridges.length := by simp [saysF]
theorem saysI_get {n : Net} {tree : Int} {i : Nat} (hi : i < n.bridges.length) : (saysI n tree)[i]? = some ⟨(sF n tree i).root, 0, idN n tree i, 0⟩ := by simp [saysI, hi]
theorem saysF_get {n : Net} {tree : Int} {i : Nat} (hi : i < n.bridges.length) : (saysF n tree)[i]? = some (sF n tree i) := by simp [saysF, hi]
theorem far0_get {n : Net} {tree : Int} {i : Nat} (hi : i < n.bridges.length) : (far0 n tree)[i]? = some (if (sF n tree i).root = idN n tree i then 0 else 1099511627776) := by simp [far0, hi]
theorem rangeI_get {k i : Nat} (hi : i < k) : (rangeI k)[i]? = some (i : Int) := by simp [rangeI, hi]
theorem gv_one {g : List Int} {i : Nat} (hi : i < g.length) : (g.map intV1)[i]? = some (intV1 (gv g i)) := by rw [List.getElem?_map, gv_of hi]; rfl
def bdF (f : List Int) : Prop := ∀ j, j < f.length → 0 ≤ gv f j ∧ gv f j ≤ 1099511627776
theorem relaxF_bd {f : List Int} {l : Link} (ha : l.a.toNat < f.length) (hb : l.b.toNat < f.length) (hne : l.a.toNat ≠ l.b.toNat) (hc : 1 ≤ l.cost) (h : bdF f) : bdF (relaxF f l) := fun j hj => by
  rw [relaxF_len] at hj
  rw [relaxF_at ha hb hne hc]
  have h1 := h j hj
  have h2 := h _ ha
  have h3 := h _ hb
  split
  · omega
  · split <;> omega
theorem fold_take {α β : Type} {f : α → β → α} {l : List β} {k : Nat} {x : β} {a : α} (h : l[k]? = some x) : (l.take (k + 1)).foldl f a = f ((l.take k).foldl f a) x := by
  rw [List.take_add_one, h, List.foldl_append]; rfl
theorem low_step (ids : Nat → Int) (g : List Int) (i j : Nat) (r : Int) : lowG ids g i (List.range (j + 1)) r = if gv g j = gv g i ∧ ids j < lowG ids g i (List.range j) r then ids j else lowG ids g i (List.range j) r := by
  rw [List.range_succ, lowG_append]; rfl
theorem far0_bd (n : Net) (tree : Int) : bdF (far0 n tree) := fun j hj => by
  rw [far0_len] at hj
  rw [far0_gv hj]
  split <;> omega
theorem repl_gv {k i : Nat} : gv (List.replicate k (0 : Int)) i = 0 := by
  unfold gv
  by_cases h : i < k
  · simp [h]
  · rw [List.getElem?_eq_none (by simp; omega)]; rfl
end Go.Proofs.Ytkppkgahdoglpaa
namespace Go.Proofs.Ytkppkgahdoglpaa
open Go.RowKit
theorem eqL_vec (a : Vec) : eqL a.cells a.cells = some true := by simp [Vec.cells, eqL, V.eq1]
theorem eqL_vecs (a b : Vec) : eqL a.cells b.cells = some (decide (a = b)) := by
  by_cases h : a = b
  · subst h; rw [eqL_vec]; simp
  · rw [decide_eq_false h]
    cases a; cases b
    simp only [Vec.cells, eqL, V.eq1]
    simp at h ⊢
    omega
attribute [local irreducible] SStep DW DWS DWin DOps thenQ inBlk loopQ retQ retQG FnF FnG FnI Wk IntKind.wrap IntKind.andI IntKind.orI IntKind.xorI IntKind.andNotI IntKind.shlI IntKind.shrI Vec.cmp
theorem ref5_Better (a b : Vec) : FnF Try.prog 43 [.agg a.cells, .agg b.cells] (.bool (decide (a.cmp b < 0))) := by
  refine fnF_of Try.func43 rfl rfl rfl ?_
  simp only [envOf]
  repeat' (first
    | (apply Stp.go; case a => constructor)
    | refine blk_hit rfl ?_ | refine blk_miss rfl ?_ | refine dnilD (by kernel_rfl) ?_ | refine DW_cond_t rfl ?_ | refine DW_cond_f rfl ?_
    | refine DW_cond rfl (fun hb => ?_) (fun hb => ?_)
    | refine dpOff rfl rfl ?_
    | ((first | apply dX rfl | apply dXon rfl rfl | apply dpMay rfl rfl (by intro h; first | trivial | exact ⟨h, trivial⟩ | exact ⟨h, h, trivial⟩ | exact ⟨h, h, h, trivial⟩)); (case h => ((try intro hg); first | exact S_al rfl | exact S_bx rfl rfl | exact S_store rfl rfl rfl rfl rfl rfl | (apply Pu.ok; repeat' (first | rfl | exact .inK (by simp only [InK]; omega) | exact .inK (by simp only [InK]; simp at hg; omega) | exact .wr | constructor | decide | omega)))); (try case hp => constructor))
    | refine dpickAnd rfl rfl rfl rfl rfl ?_ | refine dpickOr rfl rfl rfl rfl rfl ?_
    | fail)
  · refine ret1 rfl (.inl rfl) (congrArg V.bool ?_)
    rw [Bool.eq_iff_iff, decide_eq_true_iff, decide_eq_true_iff, Vec.cmp_neg]
    simp only [decide_eq_true_eq] at hb
    omega
  · rename_i h1
    refine ret1 rfl (.inl rfl) (congrArg V.bool ?_)
    rw [Bool.eq_iff_iff, decide_eq_true_iff, decide_eq_true_iff, Vec.cmp_neg]
    simp only [decide_eq_true_eq, decide_eq_false_iff_not, Classical.not_not] at hb h1
    omega
  · rename_i h1 h2
    refine ret1 rfl (.inl rfl) (congrArg V.bool ?_)
    rw [Bool.eq_iff_iff, decide_eq_true_iff, decide_eq_true_iff, Vec.cmp_neg]
    simp only [decide_eq_true_eq, decide_eq_false_iff_not, Classical.not_not] at hb h1 h2
    omega
  · rename_i h1 h2
    refine ret1 rfl (.inl rfl) (congrArg V.bool ?_)
    rw [Bool.eq_iff_iff, decide_eq_true_iff, decide_eq_true_iff, Vec.cmp_neg]
    simp only [decide_eq_false_iff_not, Classical.not_not] at hb h1 h2
    omega
theorem ref5_Role (says : Vec) (root port : Int) (l : List Offer) : FnF Try.prog 66 [says.v, .int .i64 root, .int .i64 port, offers l] (.int .i64 (roleOf says root port l)) := by
  refine fnF_of Try.func66 rfl rfl rfl ?_
  simp only [envOf, offers]
  refine DW_len 3 rfl (fun hlen => ?_)
  rw [List.length_map] at hlen
  by_cases hpr : port = root
  · repeat' (first
    | (apply Stp.go; case a => constructor)
    | refine blk_hit rfl ?_ | refine blk_miss rfl ?_ | refine dnilD (by kernel_rfl) ?_ | refine DW_cond_t rfl ?_ | refine DW_cond_f rfl ?_
    | refine dpOff rfl rfl ?_
    | ((first | apply dX rfl | apply dXon rfl rfl | apply dpMay rfl rfl (by intro h; first | trivial | exact ⟨h, trivial⟩ | exact ⟨h, h, trivial⟩ | exact ⟨h, h, h, trivial⟩)); (case h => ((try intro hg); first | exact as_bool (S_eql rfl rfl) (decide_eq_true hpr) | exact S_al rfl | exact S_bx rfl rfl | exact S_store rfl rfl rfl rfl rfl rfl | (apply Pu.ok; repeat' (first | rfl | exact .inK (by simp only [InK]; omega) | exact .inK (by simp only [InK]; simp at hg; omega) | exact .wr | constructor | decide | omega)))); (try case hp => constructor))
    | refine dpickAnd rfl rfl rfl rfl rfl ?_ | refine dpickOr rfl rfl rfl rfl rfl ?_
    | fail)
    refine ret1 rfl (.inl rfl) ?_
    rw [roleOf, if_pos hpr]
  repeat' (first
    | (apply Stp.go; case a => constructor)
    | refine blk_hit rfl ?_ | refine blk_miss rfl ?_ | refine dnilD (by kernel_rfl) ?_ | refine DW_cond_t rfl ?_ | refine DW_cond_f rfl ?_
    | refine dpOff rfl rfl ?_
    | ((first | apply dX rfl | apply dXon rfl rfl | apply dpMay rfl rfl (by intro h; first | trivial | exact ⟨h, trivial⟩ | exact ⟨h, h, trivial⟩ | exact ⟨h, h, h, trivial⟩)); (case h => ((try intro hg); first | exact as_bool (S_eql rfl rfl) (decide_eq_false hpr) | exact S_al rfl | exact S_bx rfl rfl | exact S_store rfl rfl rfl rfl rfl rfl | (apply Pu.ok; repeat' (first | rfl | exact .inK (by simp only [InK]; omega) | exact .inK (by simp only [InK]; simp at hg; omega) | exact .wr | constructor | decide | omega)))); (try case hp => constructor))
    | refine dpickAnd rfl rfl rfl rfl rfl ?_ | refine dpickOr rfl rfl rfl rfl rfl ?_
    | fail)
  refine DW_loop (fun k : Nat => ⟨[(2, .dat false (.int .i64 port)), (9, .ptr 9 0), (23, .dat false (.slice (l.map Offer.cells))), (24, .dat true (.int .i64 (l.map Offer.cells).length)), (25, .dat true (.int .i64 k))],
      [(9, .cells false true [.dat false (.int .u64 says.root), .dat false (.int .i64 says.cost), .dat false (.int .u64 says.bridge), .dat false (.int .i64 port)])], 50⟩)
    (fun k => k ≤ l.length ∧ l.any (Offer.blocks { says with port := port } port) = (l.drop k).any (Offer.blocks { says with port := port } port)) (fun k => l.length - k) 0 ⟨Nat.zero_le _, rfl⟩
    (Wk_g some rfl rfl (by (repeat' (first | exact trivial | rfl | exact listLe_map _ | exact ⟨_, rfl, .inl rfl⟩ | exact ⟨_, rfl, .inr (.inl rfl)⟩ | exact ⟨_, rfl, .inr (.inr rfl)⟩ | refine ⟨_, _, rfl, rfl, ?_⟩ | exact ⟨_, rfl, rfl⟩ | exact ⟨_, _, _, _, rfl, rfl, rfl⟩ | exact ⟨_, rfl⟩ | exact ⟨_, _, rfl⟩ | apply And.intro)))) (fun k hR => ?_)
  obtain ⟨hk, hany⟩ := hR
  have hml : (l.map Offer.cells).length = l.length := by simp
  by_cases hlt : k < l.length
  · have hx : (l.map Offer.cells)[(k : Int).toNat]? = some (l[k]).cells := by simp [hlt]
    rw [List.drop_eq_getElem_cons hlt, List.any_cons] at hany
    generalize l[k] = o at hx hany
    have hc := ref5_Better o.vec ⟨says.root, says.cost, says.bridge, port⟩
    repeat' (first
    | (apply Stp.go; case a => constructor)
    | refine blk_hit rfl ?_ | refine blk_miss rfl ?_ | refine dnilD (by kernel_rfl) ?_ | refine DW_cond_t rfl ?_ | refine DW_cond_f rfl ?_
    | refine DW_cond rfl (fun hc => ?_) (fun hc => ?_)
    | refine dpOff rfl rfl ?_
    | ((first | apply dX rfl | apply dXon rfl rfl | apply dpMay rfl rfl (by intro h; first | trivial | exact ⟨h, trivial⟩ | exact ⟨h, h, trivial⟩ | exact ⟨h, h, h, trivial⟩)); (case h => ((try intro hg); first | exact as_bool (S_lss rfl rfl) (decide_eq_true (by omega : (k : Int) < ((l.map Offer.cells).length : Int))) | exact S_ix_slice rfl rfl (by omega) hx rfl | exact S_call hc rfl | exact S_al rfl | exact S_bx rfl rfl | exact S_store rfl rfl rfl rfl rfl rfl | (apply Pu.ok; repeat' (first | rfl | exact .inK (by simp only [InK]; omega) | exact .inK (by simp only [InK]; simp at hg; omega) | exact .wr | constructor | decide | omega)))); (try case hp => constructor))
    | refine dpickAnd rfl rfl rfl rfl rfl ?_ | refine dpickOr rfl rfl rfl rfl rfl ?_
    | fail)
    · refine ret1 rfl (.inl rfl) ?_
      have e : Offer.blocks { says with port := port } port o = true := hc
      rw [roleOf, if_neg hpr, hany, e]; rfl
    · have e : Offer.blocks { says with port := port } port o = false := hc
      exact loop_again (k + 1) ⟨hlt, by rw [hany, e]; rfl⟩ (by omega) (Wk_g some rfl rfl (by (repeat' (first | exact trivial | rfl | exact listLe_map _ | exact ⟨_, rfl, .inl rfl⟩ | exact ⟨_, rfl, .inr (.inl rfl)⟩ | exact ⟨_, rfl, .inr (.inr rfl)⟩ | refine ⟨_, _, rfl, rfl, ?_⟩ | exact ⟨_, rfl, rfl⟩ | exact ⟨_, _, _, _, rfl, rfl, rfl⟩ | exact ⟨_, rfl⟩ | exact ⟨_, _, rfl⟩ | apply And.intro))))
  · repeat' (first
    | (apply Stp.go; case a => constructor)
    | refine blk_hit rfl ?_ | refine blk_miss rfl ?_ | refine dnilD (by kernel_rfl) ?_ | refine DW_cond_t rfl ?_ | refine DW_cond_f rfl ?_
    | refine dpOff rfl rfl ?_
    | ((first | apply dX rfl | apply dXon rfl rfl | apply dpMay rfl rfl (by intro h; first | trivial | exact ⟨h, trivial⟩ | exact ⟨h, h, trivial⟩ | exact ⟨h, h, h, trivial⟩)); (case h => ((try intro hg); first | exact as_bool (S_lss rfl rfl) (decide_eq_false (by omega : ¬ (k : Int) < ((l.map Offer.cells).length : Int))) | exact S_al rfl | exact S_bx rfl rfl | exact S_store rfl rfl rfl rfl rfl rfl | (apply Pu.ok; repeat' (first | rfl | exact .inK (by simp only [InK]; omega) | exact .inK (by simp only [InK]; simp at hg; omega) | exact .wr | constructor | decide | omega)))); (try case hp => constructor))
    | refine dpickAnd rfl rfl rfl rfl rfl ?_ | refine dpickOr rfl rfl rfl rfl rfl ?_
    | fail)
    refine ret1 rfl (.inl rfl) ?_
    rw [roleOf, if_neg hpr, hany, List.drop_eq_nil_of_le (by omega)]; rfl
end Go.Proofs.Ytkppkgahdoglpaa
