/- Contracts: the document's ints and Same (of places), at what is the same. -/
import Derived.Test.YtkppkgahdoglpaaydPlL
import Derived.Test.YtkppkgahdoglpaaybInp
import Derived.Test.YtkppkgahdoglpaaycPlM
import Derived.Test.YtkppkgahdoglpaayeChoose
import Derived.Test.YtkppkgahdoglpaaycChM
namespace Go.Proofs.Ytkppkgahdoglpaa
open Go.RowKit
theorem planA_cases {n : Net} (ht : n.typed) (tree : Int) : (∃ e i, e ≠ 0 ∧ planA n tree = ([], (e, i))) ∨ (n.good ∧ n.wrong = (0, 0) ∧ 0 ≤ tree ∧ tree ≤ 15 ∧ planA n tree = (planF n tree, (0, 0))) := by
  unfold planA
  by_cases h0 : n.wrong.1 ≠ 0
  · rw [if_pos h0]; exact .inl ⟨n.wrong.1, n.wrong.2, h0, rfl⟩
  · rw [if_neg h0]
    by_cases h1 : tree < 0 ∨ 15 < tree
    · rw [if_pos h1]; exact .inl ⟨3, 0, by decide, rfl⟩
    · rw [if_neg h1]
      have h0' : n.wrong.1 = 0 := Decidable.not_not.1 h0
      exact .inr ⟨((Net.wrong_iff ht).1 h0').1, Net.wrong_zero h0', by omega, by omega, rfl⟩
theorem plan_at {n : Net} {tree : Int} {i : Nat} (hi : i < n.bridges.length) : ∃ p : Place, (planF n tree)[i]? = some p ∧ p.vec = sF n tree i ∧ p.rootPort = pF n tree i ∧ p.ports = portsOf n.links i ∧ p.roles = (portsOf n.links i).map (roleF n tree i) :=
  ⟨_, plan_get hi, rfl, rfl, rfl, rfl⟩
attribute [local irreducible] SStep DW DWin DOps thenQ inBlk loopQ retQ retQG FnF FnG FnI Wk IntKind.wrap IntKind.andI IntKind.orI IntKind.xorI IntKind.andNotI IntKind.shlI IntKind.shrI Net.wrong Bridge.id Bridge.prio identR idsR liveB planA planF liveL sF pF portsOf roleF idN
end Go.Proofs.Ytkppkgahdoglpaa
namespace Go.Proofs.Ytkppkgahdoglpaa
open Go.RowKit
theorem wrap64 (x : Int) : IntKind.i64.wrap x = (x + 9223372036854775808) % 18446744073709551616 - 9223372036854775808 := by
  simp [IntKind.wrap, IntKind.bits, IntKind.signed]
  split <;> omega
def flipL (k : Int) (l : Link) : Link := { l with a := IntKind.i64.wrap (k - 1 - l.a), b := IntKind.i64.wrap (k - 1 - l.b) }
def revN (n : Net) : Net := ⟨n.bridges.reverse, (n.links.map (flipL n.bridges.length)).reverse⟩
def I64L (l : Link) : Prop := (-9223372036854775808 ≤ l.a ∧ l.a ≤ 9223372036854775807) ∧ (-9223372036854775808 ≤ l.b ∧ l.b ≤ 9223372036854775807)
theorem flip_ok {k : Nat} {l : Link} (hk : k ≤ 4611686018427387904) (h : I64L l) : (flipL k l).ok k ↔ l.ok k := by
  obtain ⟨⟨h1, h2⟩, h3, h4⟩ := h
  have e1 : (flipL k l).a = ((k : Int) - 1 - l.a + 9223372036854775808) % 18446744073709551616 - 9223372036854775808 := wrap64 _
  have e2 : (flipL k l).b = ((k : Int) - 1 - l.b + 9223372036854775808) % 18446744073709551616 - 9223372036854775808 := wrap64 _
  have e3 : (flipL k l).pa = l.pa := rfl
  have e4 : (flipL k l).pb = l.pb := rfl
  have e5 : (flipL k l).cost = l.cost := rfl
  constructor
  · rintro ⟨a0, a1, b0, b1, ne, pa, pb, c⟩
    rw [e1] at a0 a1 ne
    rw [e2] at b0 b1 ne
    exact ⟨by omega, by omega, by omega, by omega, by omega, by rw [← e3]; exact pa, by rw [← e4]; exact pb, by rw [← e5]; exact c⟩
  · rintro ⟨a0, a1, b0, b1, ne, pa, pb, c⟩
    exact ⟨by rw [e1]; omega, by rw [e1]; omega, by rw [e2]; omega, by rw [e2]; omega, by rw [e1, e2]; omega, by rw [e3]; exact pa, by rw [e4]; exact pb, by rw [e5]; exact c⟩
theorem flip_ab {k : Nat} {l : Link} (h : l.ok k) (hk : k ≤ 4611686018427387904) : (flipL k l).a = k - 1 - l.a ∧ (flipL k l).b = k - 1 - l.b := by
  obtain ⟨a0, a1, b0, b1, _, _, _, _⟩ := h
  have e1 : (flipL k l).a = ((k : Int) - 1 - l.a + 9223372036854775808) % 18446744073709551616 - 9223372036854775808 := wrap64 _
  have e2 : (flipL k l).b = ((k : Int) - 1 - l.b + 9223372036854775808) % 18446744073709551616 - 9223372036854775808 := wrap64 _
  exact ⟨by rw [e1]; omega, by rw [e2]; omega⟩
def flipP (k : Int) (p : Int × Int) : Int × Int := (IntKind.i64.wrap (k - 1 - p.1), p.2)
theorem sides_flip (k : Int) (ls : List Link) : (sidesP (ls.map (flipL k)).reverse).Perm ((sidesP ls).map (flipP k)) := by
  have h1 : (sidesP (ls.map (flipL k)).reverse).Perm (sidesP (ls.map (flipL k))) := (List.reverse_perm _).flatMap_right _
  refine h1.trans (.of_eq ?_)
  unfold sidesP
  induction ls with
  | nil => rfl
  | cons l r ih => 
    have ih := ih (h1 := (List.reverse_perm _).flatMap_right _)
    simp only [List.map_cons, List.flatMap_cons, List.map_append, ih]; rfl
theorem sides_in {k : Nat} {ls : List Link} (h : ∀ l ∈ ls, l.ok k) : ∀ p ∈ sidesP ls, 0 ≤ p.1 ∧ p.1 < k := fun p hp => by
  obtain ⟨l, hl, he⟩ := List.mem_flatMap.1 hp
  have := h l hl
  simp only [List.mem_cons, List.not_mem_nil, or_false] at he
  rcases he with rfl | rfl
  · exact ⟨this.a0, this.a1⟩
  · exact ⟨this.b0, this.b1⟩
theorem nodup_map_of {α β : Type} {f : α → β} : ∀ {l : List α}, (∀ a ∈ l, ∀ b ∈ l, f a = f b → a = b) → l.Nodup → (l.map f).Nodup
  | [], _, _ => by simp
  | a :: r, h, hn => by
    rw [List.nodup_cons] at hn
    rw [List.map_cons, List.nodup_cons]
    refine ⟨fun hm => ?_, nodup_map_of (fun x hx y hy => h x (List.mem_cons_of_mem _ hx) y (List.mem_cons_of_mem _ hy)) hn.2⟩
    obtain ⟨b, hb, e⟩ := List.mem_map.1 hm
    have := h b (List.mem_cons_of_mem _ hb) a (List.mem_cons_self ..) e
    subst this; exact hn.1 hb
theorem rev_good {n : Net} (hI : ∀ l ∈ n.links, I64L l) (hk : n.bridges.length ≤ 4611686018427387904) : (revN n).good ↔ n.good := by
  have hlen : (revN n).bridges.length = n.bridges.length := by simp [revN]
  have hln : (revN n).links.length = n.links.length := by simp [revN]
  have hlk : (∀ l ∈ (revN n).links, l.ok n.bridges.length) ↔ ∀ l ∈ n.links, l.ok n.bridges.length := by
    constructor
    · intro h l hl
      exact (flip_ok hk (hI l hl)).1 (h (flipL n.bridges.length l) (List.mem_reverse.2 (List.mem_map.2 ⟨l, hl, rfl⟩)))
    · intro h l hl
      obtain ⟨l', hl', rfl⟩ := List.mem_map.1 (List.mem_reverse.1 hl)
      exact (flip_ok hk (hI l' hl')).2 (h l' hl')
  have hsp := sides_flip n.bridges.length n.links
  constructor
  · intro h
    refine ⟨by rw [← hlen]; exact h.nb, by rw [← hln]; exact h.nl, fun b hb => h.br b (List.mem_reverse.2 hb), ?_, ?_, ?_⟩
    · have := h.ad
      have h2 : n.bridges.reverse.Pairwise (fun a b => a.addr ≠ b.addr) := this
      rw [List.pairwise_reverse] at h2
      exact h2.imp fun h => h.symm
    · have := h.lk; rw [hlen] at this; exact hlk.1 this
    · exact List.Pairwise.of_map (flipP n.bridges.length) (fun a b h e => h (by rw [e])) (hsp.nodup_iff.1 h.po)
  · intro h
    refine ⟨by rw [hlen]; exact h.nb, by rw [hln]; exact h.nl, fun b hb => h.br b (List.mem_reverse.1 hb), ?_, ?_, ?_⟩
    · show n.bridges.reverse.Pairwise _
      rw [List.pairwise_reverse]
      exact h.ad.imp fun h => h.symm
    · rw [hlen]; exact hlk.2 h.lk
    · refine hsp.nodup_iff.2 (nodup_map_of (fun p hp q hq e => ?_) h.po)
      obtain ⟨p0, p1⟩ := sides_in h.lk p hp
      obtain ⟨q0, q1⟩ := sides_in h.lk q hq
      unfold flipP at e
      rw [wrap64, wrap64] at e
      simp only [Prod.mk.injEq] at e
      obtain ⟨pa, pb⟩ := p
      obtain ⟨qa, qb⟩ := q
      simp only at p0 p1 q0 q1 e
      have : pa = qa := by omega
      rw [this, e.2]
def flipE (k : Int) (e : End) : End := { e with other := k - 1 - e.other }
section
variable {n : Net} (h : n.good) (hm : (revN n).good) (tree : Int)
include h
theorem rev_len : (revN n).bridges.length = n.bridges.length := by have := h.nb; simp [revN]
theorem rev_at {i : Nat} (hi : i < n.bridges.length) : (revN n).bridges[n.bridges.length - 1 - i]? = n.bridges[i]? := by
  have := h.nb
  show n.bridges.reverse[_]? = _
  rw [List.getElem?_reverse (by omega)]
  congr 1; omega
theorem rev_id {i : Nat} (hi : i < n.bridges.length) : idN (revN n) tree (n.bridges.length - 1 - i) = idN n tree i := by
  unfold idN; rw [rev_at h hi]
theorem rev_live {l : Link} (hl : l ∈ n.links) : liveB (revN n).bridges (flipL n.bridges.length l) = liveB n.bridges l := by
  have hk := h.lk l hl
  have hnb := h.nb
  obtain ⟨e1, e2⟩ := flip_ab hk (by omega)
  have a0 := hk.a0; have a1 := hk.a1; have b0 := hk.b0; have b1 := hk.b1
  have hid : ∀ i, i < n.bridges.length → (idsR (revN n).bridges)[n.bridges.length - 1 - i]? = (idsR n.bridges)[i]? := fun i hi => by
    unfold idsR; rw [List.getElem?_map, List.getElem?_map, rev_at h hi]
  unfold liveB
  have ea : (flipL n.bridges.length l).a.toNat = n.bridges.length - 1 - l.a.toNat := by rw [e1]; omega
  have eb : (flipL n.bridges.length l).b.toNat = n.bridges.length - 1 - l.b.toNat := by rw [e2]; omega
  rw [ea, eb, hid _ (by omega), hid _ (by omega)]
  rfl
theorem rev_adj {i : Nat} (hi : i < n.bridges.length) {e : End} : adjN (revN n) (n.bridges.length - 1 - i) e ↔ ∃ e0, adjN n i e0 ∧ e = flipE n.bridges.length e0 := by
  have hnb := h.nb
  have key : ∀ l ∈ n.links, ∀ e, e ∈ endAt ((n.bridges.length - 1 - i : Nat) : Int) (flipL n.bridges.length l) ↔ ∃ e0, e0 ∈ endAt (i : Int) l ∧ e = flipE n.bridges.length e0 := fun l hl e => by
    have hk := h.lk l hl
    obtain ⟨e1, e2⟩ := flip_ab hk (by omega)
    have a0 := hk.a0; have a1 := hk.a1; have b0 := hk.b0; have b1 := hk.b1
    unfold endAt
    rw [e1, e2]
    have f1 : ((n.bridges.length : Int) - 1 - l.a = ((n.bridges.length - 1 - i : Nat) : Int)) ↔ l.a = i := by omega
    have f2 : ((n.bridges.length : Int) - 1 - l.b = ((n.bridges.length - 1 - i : Nat) : Int)) ↔ l.b = i := by omega
    have g1 : (flipL n.bridges.length l).pa = l.pa := rfl
    have g2 : (flipL n.bridges.length l).pb = l.pb := rfl
    have g3 : (flipL n.bridges.length l).cost = l.cost := rfl
    rw [g1, g2, g3]
    simp only [List.mem_append, f1, f2]
    constructor
    · rintro (hh | hh)
      · split at hh
        · rename_i ha
          simp only [List.mem_singleton] at hh; subst hh
          exact ⟨_, .inl (by rw [if_pos ha]; exact List.mem_singleton.2 rfl), rfl⟩
        · cases hh
      · split at hh
        · rename_i ha
          simp only [List.mem_singleton] at hh; subst hh
          exact ⟨_, .inr (by rw [if_pos ha]; exact List.mem_singleton.2 rfl), rfl⟩
        · cases hh
    · rintro ⟨e0, hh | hh, rfl⟩
      · split at hh
        · rename_i ha
          simp only [List.mem_singleton] at hh; subst hh
          exact .inl (by rw [if_pos ha]; exact List.mem_singleton.2 rfl)
        · cases hh
      · split at hh
        · rename_i ha
          simp only [List.mem_singleton] at hh; subst hh
          exact .inr (by rw [if_pos ha]; exact List.mem_singleton.2 rfl)
        · cases hh
  unfold adjN rawE
  simp only [List.mem_flatMap]
  constructor
  · rintro ⟨l, hl, he⟩
    obtain ⟨m1, m2⟩ := List.mem_filter.1 hl
    obtain ⟨l0, hl0, rfl⟩ := List.mem_map.1 (List.mem_reverse.1 m1)
    rw [rev_live h hl0] at m2
    obtain ⟨e0, h0, rfl⟩ := (key l0 hl0 e).1 he
    exact ⟨e0, ⟨l0, List.mem_filter.2 ⟨hl0, m2⟩, h0⟩, rfl⟩
  · rintro ⟨e0, ⟨l0, hl0, h0⟩, rfl⟩
    obtain ⟨m1, m2⟩ := List.mem_filter.1 hl0
    refine ⟨flipL n.bridges.length l0, List.mem_filter.2 ⟨List.mem_reverse.2 (List.mem_map.2 ⟨l0, m1, rfl⟩), ?_⟩, (key l0 m1 _).2 ⟨e0, h0, rfl⟩⟩
    rw [rev_live h m1]; exact m2
include hm
theorem rev_say : ∀ (t i : Nat), i < n.bridges.length → (sayN (revN n) tree t (n.bridges.length - 1 - i)).root = (sayN n tree t i).root ∧ (sayN (revN n) tree t (n.bridges.length - 1 - i)).cost = (sayN n tree t i).cost ∧
    (∀ o, o ∈ offersOf (endsOf (revN n) (n.bridges.length - 1 - i)) (saysN (revN n) tree t) ↔ o ∈ offersOf (endsOf n i) (saysN n tree t))
  | t, i, hi => by
    have hnb := h.nb
    have hlen := rev_len h
    have hi' : n.bridges.length - 1 - i < (revN n).bridges.length := by omega
    have hval : ∀ j, j < n.bridges.length → (sayN (revN n) tree t (n.bridges.length - 1 - j)).root = (sayN n tree t j).root ∧ (sayN (revN n) tree t (n.bridges.length - 1 - j)).cost = (sayN n tree t j).cost := fun j hj => by
      have hj' : n.bridges.length - 1 - j < (revN n).bridges.length := by omega
      match t with
      | 0 =>
        rw [(sayN_zero hj).1, (sayN_zero hj).2, (sayN_zero hj').1, (sayN_zero hj').2]
        exact ⟨rev_id h tree hj, rfl⟩
      | t + 1 =>
        have ih := (rev_say t j hj).2.2
        have hc := choose_same (id := idN n tree j) ih
        rw [(sayN_succ hj).1, (sayN_succ hj).2, (sayN_succ hj').1, (sayN_succ hj').2]
        unfold chN
        rw [rev_id h tree hj]
        exact ⟨hc.1, hc.2.1⟩
    refine ⟨(hval i hi).1, (hval i hi).2, fun o => ?_⟩
    have hof : ∀ e0, adjN n i e0 → offerOf (saysN (revN n) tree t) (flipE n.bridges.length e0) = offerOf (saysN n tree t) e0 := fun e0 he0 => by
      have hk := adj_ok h he0
      have ha : adjN (revN n) (n.bridges.length - 1 - i) (flipE n.bridges.length e0) := (rev_adj h hi).2 ⟨e0, he0, rfl⟩
      rw [offer_eq h he0, offer_eq hm ha]
      have eo : (flipE n.bridges.length e0).other.toNat = n.bridges.length - 1 - e0.other.toNat := by
        show ((n.bridges.length : Int) - 1 - e0.other).toNat = _
        have := hk.2.2.2.1; omega
      have hv := hval _ hk.2.2.1
      rw [eo, hv.1, hv.2, rev_id h tree hk.2.2.1]
      rfl
    rw [offer_mem, offer_mem]
    constructor
    · rintro ⟨e, he, rfl⟩
      obtain ⟨e0, he0, rfl⟩ := (rev_adj h hi).1 he
      exact ⟨e0, he0, hof e0 he0⟩
    · rintro ⟨e0, he0, rfl⟩
      exact ⟨_, (rev_adj h hi).2 ⟨e0, he0, rfl⟩, (hof e0 he0).symm⟩
theorem rev_sF {i : Nat} (hi : i < n.bridges.length) : sF (revN n) tree (n.bridges.length - 1 - i) = sF n tree i := by
  have hnb := h.nb
  have hlen := rev_len h
  have hi' : n.bridges.length - 1 - i < (revN n).bridges.length := by omega
  have hs := rev_say h hm tree (n.bridges.length + 1) i hi
  obtain ⟨h3, h4⟩ := sF_ids (tree := tree) hi
  obtain ⟨h5, h6⟩ := sF_ids (tree := tree) hi'
  refine Vec.ext4 ?_ ?_ ?_ (h6.trans h4.symm)
  · unfold sF; rw [hlen]; exact hs.1
  · unfold sF; rw [hlen]; exact hs.2.1
  · rw [h5, h3, rev_id h tree hi]
theorem rev_pF {i : Nat} (hi : i < n.bridges.length) : pF (revN n) tree (n.bridges.length - 1 - i) = pF n tree i := by
  have hc := choose_same (id := idN n tree i) (rev_say h hm tree n.bridges.length i hi).2.2
  unfold pF chN
  rw [rev_id h tree hi, rev_len h]
  exact hc.2.2
theorem rev_ports {i : Nat} (hi : i < n.bridges.length) : portsOf (revN n).links ((n.bridges.length - 1 - i : Nat) : Int) = portsOf n.links (i : Nat) := by
  have _ := hm
  have hnb := h.nb
  have hp : (rawP (revN n).links ((n.bridges.length - 1 - i : Nat) : Int)).Perm (rawP n.links (i : Nat)) := by
    have h1 : (rawP (revN n).links ((n.bridges.length - 1 - i : Nat) : Int)).Perm (rawP (n.links.map (flipL n.bridges.length)) ((n.bridges.length - 1 - i : Nat) : Int)) := (List.reverse_perm _).flatMap_right _
    refine h1.trans (.of_eq ?_)
    unfold rawP
    rw [List.flatMap_map]
    have hpa : ∀ l ∈ n.links, portAt ((n.bridges.length - 1 - i : Nat) : Int) (flipL n.bridges.length l) = portAt (i : Nat) l := fun l hl => by
      have hk := h.lk l hl
      obtain ⟨e1, e2⟩ := flip_ab hk (by omega)
      have a0 := hk.a0; have a1 := hk.a1; have b0 := hk.b0; have b1 := hk.b1
      unfold portAt
      rw [e1, e2]
      have f1 : ((n.bridges.length : Int) - 1 - l.a = ((n.bridges.length - 1 - i : Nat) : Int)) ↔ l.a = (i : Nat) := by omega
      have f2 : ((n.bridges.length : Int) - 1 - l.b = ((n.bridges.length - 1 - i : Nat) : Int)) ↔ l.b = (i : Nat) := by omega
      simp only [f1, f2]
      rfl
    have : ∀ ls : List Link, (∀ l ∈ ls, portAt ((n.bridges.length - 1 - i : Nat) : Int) (flipL n.bridges.length l) = portAt (i : Nat) l) → ls.flatMap (fun a => portAt ((n.bridges.length - 1 - i : Nat) : Int) (flipL n.bridges.length a)) = ls.flatMap (portAt (i : Nat)) := fun ls => by
      induction ls with
      | nil => intro _; rfl
      | cons l r ih =>
        intro hh
        rw [List.flatMap_cons, List.flatMap_cons, hh l (List.mem_cons_self ..), ih (fun l hl => hh l (List.mem_cons_of_mem _ hl))]
    exact this _ hpa
  rw [portsOf_eq, portsOf_eq]
  rw [sortI_iso, sortI_iso]
  exact List.Perm.eq_of_pairwise (le := fun a b : Int => a ≤ b) (fun a b _ _ h1 h2 => by omega) (isoP_sorted _) (isoP_sorted _) ((isoP_perm _).trans (hp.trans (isoP_perm _).symm))
theorem any_same {α : Type} {l r : List α} {f : α → Bool} (hh : ∀ x, x ∈ l ↔ x ∈ r) : l.any f = r.any f := by
  have _ := h
  have _ := hm
  rw [Bool.eq_iff_iff, List.any_eq_true, List.any_eq_true]
  constructor
  · rintro ⟨x, hx, hf⟩; exact ⟨x, (hh x).1 hx, hf⟩
  · rintro ⟨x, hx, hf⟩; exact ⟨x, (hh x).2 hx, hf⟩
theorem rev_role {i : Nat} (hi : i < n.bridges.length) (p : Int) : roleF (revN n) tree (n.bridges.length - 1 - i) p = roleF n tree i p := by
  have e1 : (endsOf (revN n) (n.bridges.length - 1 - i)).any (fun e => decide (e.port = p)) = (endsOf n i).any (fun e => decide (e.port = p)) := by
    rw [Bool.eq_iff_iff, List.any_eq_true, List.any_eq_true]
    constructor
    · rintro ⟨e, he, hf⟩
      obtain ⟨e0, he0, rfl⟩ := (rev_adj h hi).1 (mem_endsOf.1 he)
      exact ⟨e0, mem_endsOf.2 he0, hf⟩
    · rintro ⟨e0, he0, hf⟩
      exact ⟨_, mem_endsOf.2 ((rev_adj h hi).2 ⟨e0, mem_endsOf.1 he0, rfl⟩), hf⟩
  unfold roleF
  rw [e1, rev_sF h hm tree hi, rev_pF h hm tree hi, rev_len h]
  unfold roleOf
  rw [any_same h hm (rev_say h hm tree (n.bridges.length + 1) i hi).2.2]
theorem rev_place {i : Nat} (hi : i < n.bridges.length) : (planF (revN n) tree)[n.bridges.length - 1 - i]? = (planF n tree)[i]? := by
  have hnb := h.nb
  have hlen := rev_len h
  rw [plan_get hi, plan_get (by omega), rev_sF h hm tree hi, rev_pF h hm tree hi, rev_ports h hm hi]
  congr 2
  apply List.map_congr_left
  intro p _
  exact rev_role h hm tree hi p
end
end Go.Proofs.Ytkppkgahdoglpaa
namespace Go.Proofs.Ytkppkgahdoglpaa
open Go.RowKit
theorem eqL_vec (a : Vec) : eqL a.cells a.cells = some true := by simp [Vec.cells, eqL, V.eq1]
attribute [local irreducible] SStep DW DWin DOps thenQ inBlk loopQ retQ retQG FnF FnG FnI Wk IntKind.wrap IntKind.andI IntKind.orI IntKind.xorI IntKind.andNotI IntKind.shlI IntKind.shrI Vec.cmp
end Go.Proofs.Ytkppkgahdoglpaa
namespace Go.Proofs.Ytkppkgahdoglpaa
open Go.RowKit
attribute [local irreducible] SStep DW DWin DOps thenQ inBlk loopQ retQ retQG FnF FnG FnI Wk IntKind.wrap IntKind.andI IntKind.orI IntKind.xorI IntKind.andNotI IntKind.shlI IntKind.shrI
theorem ref6_ints (l : List Int) : FnF Try.prog 46 [.slice (l.map intV1), .slice (l.map intV1)] (.bool true) := by
  refine fnF_of Try.func46 rfl rfl rfl ?_
  simp only [envOf]
  refine DW_len 0 rfl (fun hlen => ?_)
  have hml : (l.map intV1).length = l.length := by simp
  repeat' (first
    | (apply Stp.go; case a => constructor)
    | refine blk_hit rfl ?_ | refine blk_miss rfl ?_ | refine dnilD (by kernel_rfl) ?_ | refine DW_cond_t rfl ?_ | refine DW_cond_f rfl ?_
    | refine DW_tD rfl (by omega) ?_ | refine DW_fD rfl (by omega) ?_
    | refine dpOff rfl rfl ?_
    | ((first | apply dX rfl | apply dXon rfl rfl | apply dpMay rfl rfl (by intro h; first | trivial | exact ⟨h, trivial⟩ | exact ⟨h, h, trivial⟩ | exact ⟨h, h, h, trivial⟩)); (case h => ((try intro hg); first | exact S_cT rfl rfl (by constructor) (by omega) | exact S_cF rfl rfl (by constructor) (by omega) | exact S_al rfl | exact S_bx rfl rfl | exact S_store rfl rfl rfl rfl rfl rfl | (apply Pu.ok; repeat' (first | rfl | exact .inK (by simp only [InK]; omega) | exact .inK (by simp only [InK]; simp at hg; omega) | exact .wr | constructor | decide | omega)))); (try case hp => constructor))
    | refine dpickAnd rfl rfl rfl rfl rfl ?_ | refine dpickOr rfl rfl rfl rfl rfl ?_
    | fail)
  refine DW_loop (fun k : Nat => ⟨[(0, .dat false (.slice (l.map intV1))), (1, .dat false (.slice (l.map intV1))), (12, .dat true (.int .i64 (l.map intV1).length)), (13, .dat true (.int .i64 k))], [], 26⟩)
    (fun k => k ≤ l.length) (fun k => l.length - k) 0 (Nat.zero_le _) (Wk_g some rfl rfl (by (repeat' (first | exact trivial | rfl | exact listLe_map _ | exact ⟨_, rfl, .inl rfl⟩ | exact ⟨_, rfl, .inr (.inl rfl)⟩ | exact ⟨_, rfl, .inr (.inr rfl)⟩ | refine ⟨_, _, rfl, rfl, ?_⟩ | exact ⟨_, rfl, rfl⟩ | exact ⟨_, _, _, _, rfl, rfl, rfl⟩ | exact ⟨_, rfl⟩ | exact ⟨_, _, rfl⟩ | apply And.intro)))) (fun k hk => ?_)
  by_cases hlt : k < l.length
  · have hx : l[(k : Int).toNat]? = some l[k] := by simp [hlt]
    repeat' (first
    | (apply Stp.go; case a => constructor)
    | refine blk_hit rfl ?_ | refine blk_miss rfl ?_ | refine dnilD (by kernel_rfl) ?_ | refine DW_cond_t rfl ?_ | refine DW_cond_f rfl ?_
    | refine DW_tD rfl (by omega) ?_ | refine DW_fD rfl (by omega) ?_
    | refine dpOff rfl rfl ?_
    | ((first | apply dX rfl | apply dXon rfl rfl | apply dpMay rfl rfl (by intro h; first | trivial | exact ⟨h, trivial⟩ | exact ⟨h, h, trivial⟩ | exact ⟨h, h, h, trivial⟩)); (case h => ((try intro hg); first | exact S_ixM rfl rfl (by omega) hx | exact S_cT rfl rfl (by constructor) (by omega) | exact S_cF rfl rfl (by constructor) (by omega) | exact S_al rfl | exact S_bx rfl rfl | exact S_store rfl rfl rfl rfl rfl rfl | (apply Pu.ok; repeat' (first | rfl | exact .inK (by simp only [InK]; omega) | exact .inK (by simp only [InK]; simp at hg; omega) | exact .wr | constructor | decide | omega)))); (try case hp => constructor))
    | refine dpickAnd rfl rfl rfl rfl rfl ?_ | refine dpickOr rfl rfl rfl rfl rfl ?_
    | fail)
    exact loop_again (k + 1) hlt (by omega) (Wk_g some rfl rfl (by (repeat' (first | exact trivial | rfl | exact listLe_map _ | exact ⟨_, rfl, .inl rfl⟩ | exact ⟨_, rfl, .inr (.inl rfl)⟩ | exact ⟨_, rfl, .inr (.inr rfl)⟩ | refine ⟨_, _, rfl, rfl, ?_⟩ | exact ⟨_, rfl, rfl⟩ | exact ⟨_, _, _, _, rfl, rfl, rfl⟩ | exact ⟨_, rfl⟩ | exact ⟨_, _, rfl⟩ | apply And.intro))))
  · repeat' (first
    | (apply Stp.go; case a => constructor)
    | refine blk_hit rfl ?_ | refine blk_miss rfl ?_ | refine dnilD (by kernel_rfl) ?_ | refine DW_cond_t rfl ?_ | refine DW_cond_f rfl ?_
    | refine DW_tD rfl (by omega) ?_ | refine DW_fD rfl (by omega) ?_
    | refine dpOff rfl rfl ?_
    | ((first | apply dX rfl | apply dXon rfl rfl | apply dpMay rfl rfl (by intro h; first | trivial | exact ⟨h, trivial⟩ | exact ⟨h, h, trivial⟩ | exact ⟨h, h, h, trivial⟩)); (case h => ((try intro hg); first | exact S_cT rfl rfl (by constructor) (by omega) | exact S_cF rfl rfl (by constructor) (by omega) | exact S_al rfl | exact S_bx rfl rfl | exact S_store rfl rfl rfl rfl rfl rfl | (apply Pu.ok; repeat' (first | rfl | exact .inK (by simp only [InK]; omega) | exact .inK (by simp only [InK]; simp at hg; omega) | exact .wr | constructor | decide | omega)))); (try case hp => constructor))
    | refine dpickAnd rfl rfl rfl rfl rfl ?_ | refine dpickOr rfl rfl rfl rfl rfl ?_
    | fail)
    refine ret1 rfl (by first | exact .inl rfl | exact .inr (flat_of rfl)) ?_
    rfl
set_option maxHeartbeats 1000000 in
theorem ref6_Same (l : List Place) : FnF Try.prog 16 [.slice (l.map Place.cells), .slice (l.map Place.cells)] (.bool true) := by
  refine fnF_of Try.func16 rfl rfl rfl ?_
  simp only [envOf]
  refine DW_len 0 rfl (fun hlen => ?_)
  have hml : (l.map Place.cells).length = l.length := by simp
  repeat' (first
    | (apply Stp.go; case a => constructor)
    | refine blk_hit rfl ?_ | refine blk_miss rfl ?_ | refine dnilD (by kernel_rfl) ?_ | refine DW_cond_t rfl ?_ | refine DW_cond_f rfl ?_
    | refine DW_tD rfl (by omega) ?_ | refine DW_fD rfl (by omega) ?_
    | refine dpOff rfl rfl ?_
    | ((first | apply dX rfl | apply dXon rfl rfl | apply dpMay rfl rfl (by intro h; first | trivial | exact ⟨h, trivial⟩ | exact ⟨h, h, trivial⟩ | exact ⟨h, h, h, trivial⟩)); (case h => ((try intro hg); first | exact S_cT rfl rfl (by constructor) (by omega) | exact S_cF rfl rfl (by constructor) (by omega) | exact S_al rfl | exact S_bx rfl rfl | exact S_store rfl rfl rfl rfl rfl rfl | (apply Pu.ok; repeat' (first | rfl | exact .inK (by simp only [InK]; omega) | exact .inK (by simp only [InK]; simp at hg; omega) | exact .wr | constructor | decide | omega)))); (try case hp => constructor))
    | refine dpickAnd rfl rfl rfl rfl rfl ?_ | refine dpickOr rfl rfl rfl rfl rfl ?_
    | fail)
  refine DW_loop (fun k : Nat => ⟨[(0, .dat false (.slice (l.map Place.cells))), (1, .dat false (.slice (l.map Place.cells))), (12, .dat true (.int .i64 (l.map Place.cells).length)), (13, .dat true (.int .i64 k))], [], 69⟩)
    (fun k => k ≤ l.length) (fun k => l.length - k) 0 (Nat.zero_le _) (Wk_g some rfl rfl (by (repeat' (first | exact trivial | rfl | exact listLe_map _ | exact ⟨_, rfl, .inl rfl⟩ | exact ⟨_, rfl, .inr (.inl rfl)⟩ | exact ⟨_, rfl, .inr (.inr rfl)⟩ | refine ⟨_, _, rfl, rfl, ?_⟩ | exact ⟨_, rfl, rfl⟩ | exact ⟨_, _, _, _, rfl, rfl, rfl⟩ | exact ⟨_, rfl⟩ | exact ⟨_, _, rfl⟩ | apply And.intro)))) (fun k hk => ?_)
  by_cases hlt : k < l.length
  · have hx : l[(k : Int).toNat]? = some l[k] := by simp [hlt]
    generalize l[k] = p at hx
    obtain ⟨v, r, ps, rs⟩ := p
    have hi1 := ref6_ints ps
    have hi2 := ref6_ints rs
    have hq : SStep Try.prog = SStep Try.prog := rfl
    repeat' (first
    | (apply Stp.go; case a => constructor)
    | refine blk_hit rfl ?_ | refine blk_miss rfl ?_ | refine dnilD (by kernel_rfl) ?_ | refine DW_cond_t rfl ?_ | refine DW_cond_f rfl ?_
    | refine DW_tD rfl (by omega) ?_ | refine DW_fD rfl (by omega) ?_
    | refine dpOff rfl rfl ?_
    | ((first | apply dX rfl | apply dXon rfl rfl | apply dpMay rfl rfl (by intro h; first | trivial | exact ⟨h, trivial⟩ | exact ⟨h, h, trivial⟩ | exact ⟨h, h, h, trivial⟩)); (case h => ((try intro hg); first | exact S_ixM rfl rfl (by omega) hx | exact as_bool (S_neqA rfl rfl rfl rfl (eqL_vec v)) rfl | exact S_call hi1 rfl | exact S_call hi2 rfl | exact S_cT rfl rfl (by constructor) (by omega) | exact S_cF rfl rfl (by constructor) (by omega) | exact S_al rfl | exact S_bx rfl rfl | exact S_store rfl rfl rfl rfl rfl rfl | (apply Pu.ok; repeat' (first | rfl | exact .inK (by simp only [InK]; omega) | exact .inK (by simp only [InK]; simp at hg; omega) | exact .wr | constructor | decide | omega)))); (try case hp => constructor))
    | refine dpickAnd rfl rfl rfl rfl rfl ?_ | refine dpickOr rfl rfl rfl rfl rfl ?_
    | fail)
    exact loop_again (k + 1) hlt (by omega) (Wk_g some rfl rfl (by (repeat' (first | exact trivial | rfl | exact listLe_map _ | exact ⟨_, rfl, .inl rfl⟩ | exact ⟨_, rfl, .inr (.inl rfl)⟩ | exact ⟨_, rfl, .inr (.inr rfl)⟩ | refine ⟨_, _, rfl, rfl, ?_⟩ | exact ⟨_, rfl, rfl⟩ | exact ⟨_, _, _, _, rfl, rfl, rfl⟩ | exact ⟨_, rfl⟩ | exact ⟨_, _, rfl⟩ | apply And.intro))))
  · repeat' (first
    | (apply Stp.go; case a => constructor)
    | refine blk_hit rfl ?_ | refine blk_miss rfl ?_ | refine dnilD (by kernel_rfl) ?_ | refine DW_cond_t rfl ?_ | refine DW_cond_f rfl ?_
    | refine DW_tD rfl (by omega) ?_ | refine DW_fD rfl (by omega) ?_
    | refine dpOff rfl rfl ?_
    | ((first | apply dX rfl | apply dXon rfl rfl | apply dpMay rfl rfl (by intro h; first | trivial | exact ⟨h, trivial⟩ | exact ⟨h, h, trivial⟩ | exact ⟨h, h, h, trivial⟩)); (case h => ((try intro hg); first | exact S_cT rfl rfl (by constructor) (by omega) | exact S_cF rfl rfl (by constructor) (by omega) | exact S_al rfl | exact S_bx rfl rfl | exact S_store rfl rfl rfl rfl rfl rfl | (apply Pu.ok; repeat' (first | rfl | exact .inK (by simp only [InK]; omega) | exact .inK (by simp only [InK]; simp at hg; omega) | exact .wr | constructor | decide | omega)))); (try case hp => constructor))
    | refine dpickAnd rfl rfl rfl rfl rfl ?_ | refine dpickOr rfl rfl rfl rfl rfl ?_
    | fail)
    refine ret1 rfl (by first | exact .inl rfl | exact .inr (flat_of rfl)) ?_
    rfl
end Go.Proofs.Ytkppkgahdoglpaa
