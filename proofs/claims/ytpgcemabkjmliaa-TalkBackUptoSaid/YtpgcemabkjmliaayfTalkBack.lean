/- Law: TalkBack. -/
import Derived.Test.YtpgcemabkjmliaaydTas
namespace Go.Proofs.Ytpgcemabkjmliaa
open Go.RowKit
def upD (w : Int) : Doing := ⟨2, w, 0, 0⟩
def downD (w : Int) : Doing := ⟨3, w, 0, 0⟩
theorem run_up {n : Net} {t0 : List (List Mind)} {l : List Doing} {w : Int} {m : Net} {t : List (List Mind)} {f : Int × Nat} (h : onLoop 0 (l ++ [upD w]) n t0 = (some (m, t), f)) :
    ∃ (m0 : Net) (A : Nat) (x : Link), w = A ∧ m0.links[A]? = some x ∧ m = ⟨m0.bridges, m0.links.set A { x with up := true }⟩ := by
  rw [onLoop_append] at h
  generalize onLoop 0 l n t0 = q at h
  obtain ⟨o, g⟩ := q
  cases o with
  | none => injection h with h _; cases h
  | some p =>
    obtain ⟨m0, t1⟩ := p
    simp only at h
    rw [onLoop, if_neg (show ¬ (upD w).kind = 1 by show ¬ (2 : Int) = 1; decide)] at h
    by_cases hn : w < 0 ∨ (m0.links.length : Int) ≤ w
    · rw [doS_none (d := upD w) (.inl rfl) hn] at h
      simp at h
    · obtain ⟨A, rfl⟩ : ∃ A : Nat, w = (A : Int) := ⟨w.toNat, by omega⟩
      have hA : A < m0.links.length := by omega
      have hx : m0.links[A]? = some m0.links[A] := List.getElem?_eq_getElem hA
      rw [doS_up (d := upD A) (.inl rfl) rfl hx] at h
      simp only [ne_eq, not_true_eq_false, if_false, onLoop] at h
      injection h with h _
      injection h with h
      injection h with h1 h2
      exact ⟨m0, A, _, rfl, hx, h1.symm⟩
theorem set_same {α : Type} {l : List α} {k : Nat} {a : α} (h : l[k]? = some a) : l.set k a = l := by
  obtain ⟨hk, rfl⟩ := List.getElem?_eq_some_iff.1 h
  exact List.set_getElem_self hk
theorem down_up {m0 m : Net} {A : Nat} {x : Link} (hx : m0.links[A]? = some x) (hm : m = ⟨m0.bridges, m0.links.set A { x with up := true }⟩) :
    ∃ md : Net, doS m (downD A) = (md, 0) ∧ doS md (upD A) = (m, 0) := by
  have hA := (List.getElem?_eq_some_iff.1 hx).1
  have h1 : m.links[A]? = some { x with up := true } := by rw [hm]; exact List.getElem?_set_self hA
  refine ⟨⟨m.bridges, m.links.set A { x with up := false }⟩, ?_, ?_⟩
  · rw [doS_up (d := downD A) (.inr rfl) rfl h1]; rfl
  · have hA2 := (List.getElem?_eq_some_iff.1 h1).1
    have h2 : (m.links.set A { x with up := false })[A]? = some { x with up := false } := List.getElem?_set_self hA2
    rw [doS_up (n := ⟨m.bridges, m.links.set A { x with up := false }⟩) (d := upD A) (.inl rfl) rfl h2]
    show (Net.mk m.bridges ((m.links.set A _).set A { x with up := true }), (0 : Int)) = _
    rw [List.set_set, set_same h1]
attribute [local irreducible] SStep DW DWin DOps thenQ inBlk loopQ retQ retQG FnF FnG FnI FnM Wk ticksN tkN IntKind.wrap IntKind.andI IntKind.orI IntKind.xorI IntKind.andNotI IntKind.shlI IntKind.shrI playA onA
set_option maxHeartbeats 8000000 in
theorem law_TalkBack (n : Net) (ht : n.typed) (trees : Int) (l : List Doing) (which td : Int) (hlb : l.length ≤ 1048576) : FnF Try.prog 8 [n.v, .int .i64 trees, .slice (l.map Doing.cells), .int .i64 which, .int .i64 td] (.bool true) := by
  refine fnF_of Try.func8 rfl rfl rfl ?_
  simp only [envOf]
  have hml : (l.map Doing.cells).length = l.length := by simp
  by_cases c3 : 25 < l.length
  · repeat' (first | (apply Wa; constructor) | refine Wb rfl ?_ | refine Wc rfl ?_ | refine Wd (by kernel_rfl) ?_ | refine We rfl ?_ | refine Wf rfl ?_ | refine Wg rfl (by omega) ?_ | refine Wh rfl (by omega) ?_ | refine Wi rfl rfl ?_ | ((first | apply dX rfl | apply Da rfl rfl | apply Db rfl rfl (by intro h; first | trivial | exact ⟨h, trivial⟩ | exact ⟨h, h, trivial⟩)); (focus ((try intro hg); first | exact S_call law7_alive rfl | exact Ca rfl rfl (by constructor) (by omega) | exact Cb rfl rfl (by constructor) (by omega) | exact S_al rfl | exact S_bx rfl rfl | exact S_store rfl rfl rfl rfl rfl rfl | (apply Pu.ok; repeat' (first | rfl | exact .inK (by simp only [InK]; omega) | exact .wr | constructor | decide | omega)))); constructor) | refine Pa rfl rfl rfl rfl rfl ?_ | refine Po rfl rfl rfl rfl rfl ?_ | fail)
    refine ret1 rfl (by first | exact .inl rfl | exact .inr (flat_of rfl)) ?_
    rfl
  by_cases c1 : td < 0
  · repeat' (first | (apply Wa; constructor) | refine Wb rfl ?_ | refine Wc rfl ?_ | refine Wd (by kernel_rfl) ?_ | refine We rfl ?_ | refine Wf rfl ?_ | refine Wg rfl (by omega) ?_ | refine Wh rfl (by omega) ?_ | refine Wi rfl rfl ?_ | ((first | apply dX rfl | apply Da rfl rfl | apply Db rfl rfl (by intro h; first | trivial | exact ⟨h, trivial⟩ | exact ⟨h, h, trivial⟩)); (focus ((try intro hg); first | exact S_call law7_alive rfl | exact Ca rfl rfl (by constructor) (by omega) | exact Cb rfl rfl (by constructor) (by omega) | exact S_al rfl | exact S_bx rfl rfl | exact S_store rfl rfl rfl rfl rfl rfl | (apply Pu.ok; repeat' (first | rfl | exact .inK (by simp only [InK]; omega) | exact .wr | constructor | decide | omega)))); constructor) | refine Pa rfl rfl rfl rfl rfl ?_ | refine Po rfl rfl rfl rfl rfl ?_ | fail)
    refine ret1 rfl (by first | exact .inl rfl | exact .inr (flat_of rfl)) ?_
    rfl
  by_cases c2 : 100 < td
  · repeat' (first | (apply Wa; constructor) | refine Wb rfl ?_ | refine Wc rfl ?_ | refine Wd (by kernel_rfl) ?_ | refine We rfl ?_ | refine Wf rfl ?_ | refine Wg rfl (by omega) ?_ | refine Wh rfl (by omega) ?_ | refine Wi rfl rfl ?_ | ((first | apply dX rfl | apply Da rfl rfl | apply Db rfl rfl (by intro h; first | trivial | exact ⟨h, trivial⟩ | exact ⟨h, h, trivial⟩)); (focus ((try intro hg); first | exact S_call law7_alive rfl | exact Ca rfl rfl (by constructor) (by omega) | exact Cb rfl rfl (by constructor) (by omega) | exact S_al rfl | exact S_bx rfl rfl | exact S_store rfl rfl rfl rfl rfl rfl | (apply Pu.ok; repeat' (first | rfl | exact .inK (by simp only [InK]; omega) | exact .wr | constructor | decide | omega)))); constructor) | refine Pa rfl rfl rfl rfl rfl ?_ | refine Po rfl rfl rfl rfl rfl ?_ | fail)
    refine ret1 rfl (by first | exact .inl rfl | exact .inr (flat_of rfl)) ?_
    rfl
  have hp := talk_Play n ht trees (l ++ [upD which, tickD 40])
  have ht40 := law7_ticks 40
  have htd := law7_ticks td
  rcases playA_cases ht trees (l ++ [upD which, tickD 40]) with ⟨f, hf, hne⟩ | ⟨hg, h0, h1, h2, hl, ⟨m, t⟩, hon, hpl⟩
  · rw [hf] at hp
    rw [← whole_eq (f := Doing.cells) (us := l ++ [upD which, tickD 40]) rfl] at hp
    obtain ⟨e, i⟩ := f
    simp only at hne
    repeat' (first | (apply dt rfl; case h => exact S_litO (els := []) _ rfl rfl rfl rfl rfl) | (apply Wa; constructor) | refine Wb rfl ?_ | refine Wc rfl ?_ | refine Wd (by kernel_rfl) ?_ | refine We rfl ?_ | refine Wf rfl ?_ | refine Wg rfl (by omega) ?_ | refine Wh rfl (by omega) ?_ | refine Wi rfl rfl ?_ | ((first | apply dX rfl | apply Da rfl rfl | apply Db rfl rfl (by intro h; first | trivial | exact ⟨h, trivial⟩ | exact ⟨h, h, trivial⟩)); (focus ((try intro hg); first | exact S_call law7_alive rfl | exact S_call ht40 rfl | exact S_appM (f := Doing.cells) (us := []) (bs := l) rfl rfl (.dat _ _) rfl rfl (.inr ⟨rfl, inferInstance⟩) rfl (by simp only [List.length_nil]; omega) | exact S_appM (f := Doing.cells) (us := l) (bs := [upD which, tickD 40]) rfl rfl (.dat _ _) rfl rfl (.inr ⟨rfl, inferInstance⟩) rfl (by simp only [List.length_cons, List.length_nil]; omega) | exact S_call hp rfl | exact Ca rfl rfl (by constructor) (by omega) | exact Cb rfl rfl (by constructor) (by omega) | exact S_al rfl | exact S_bx rfl rfl | exact S_store rfl rfl rfl rfl rfl rfl | (apply Pu.ok; repeat' (first | rfl | exact .inK (by simp only [InK]; omega) | exact .wr | constructor | decide | omega)))); constructor) | refine Pa rfl rfl rfl rfl rfl ?_ | refine Po rfl rfl rfl rfl rfl ?_ | fail)
    refine ret1 rfl (by first | exact .inl rfl | exact .inr (flat_of rfl)) ?_
    rfl
  · rw [hpl] at hp
    obtain ⟨mg, mt, m0, mk, mgt, mtl⟩ := play_two ht hpl hg h0 h1 h2 hon
    rw [show l ++ [upD which, tickD 40] = (l ++ [upD which]) ++ [tickD 40] by simp] at hon
    obtain ⟨t1, hon1, htt⟩ := run_ticks (by decide) hon
    simp only at hon1 htt
    have hgt1 := (run_good hg h2 hon1).2
    obtain ⟨m1, A, x, hw, hx, hm⟩ := run_up hon1
    subst hw
    obtain ⟨md, d1, d2⟩ := down_up hx hm
    have mdg := doS_good mg (downD A) (by rw [d1])
    have mdk := doS_kin m (downD A)
    rw [d1] at mdg mdk
    simp only at mdg mdk
    have hst : standsT m t := by rw [htt]; exact stands_ticks mg hgt1 (by decide)
    have hgt2 : goodT m (ticksN md t td.toNat) := goodT_kin mdk.symm (ticksN_good (goodT_kin mdk mgt) _)
    have hst2 : standsT m (ticksN m (ticksN md t td.toNat) 40) := stands_ticks mg hgt2 (by decide)
    have ha1 := law7_as m mt mg m0 t mgt hst
    have ha2 := law7_as m mt mg m0 _ (ticksN_good hgt2 40) hst2
    have hsn := ref7_SameNet m mg.nb mg.nl mt.wy
    have hq := talk_On m mt t (fun _ => ⟨mgt, by omega⟩) [downD A, tickD td, upD A, tickD 40]
    have hrun : onLoop 0 [downD A, tickD td, upD A, tickD 40] m t = (some (m, ticksN m (ticksN md t td.toNat) 40), (0, 0)) := by
      rw [onLoop, if_neg (show ¬ (downD A).kind = 1 by show ¬ (3 : Int) = 1; decide), d1]
      simp only [ne_eq, not_true_eq_false, if_false]
      rw [onLoop, if_pos (show (tickD td).kind = 1 from rfl), if_neg (show ¬ ((tickD td).n < 0 ∨ 200 < (tickD td).n) by show ¬ (td < 0 ∨ 200 < td); omega)]
      rw [onLoop, if_neg (show ¬ (upD A).kind = 1 by show ¬ (2 : Int) = 1; decide), d2]
      simp only [ne_eq, not_true_eq_false, if_false]
      exact onLoop_tick (by decide)
    rw [onA_loop m0 (by simp), hrun] at hq
    generalize ticksN m (ticksN md t td.toNat) 40 = t3 at hq ha2
    change FnF _ _ _ (.tuple [m.v, talkV t, faultV (0, 0)]) at hp
    change FnF _ _ _ (.tuple [m.v, talkV t3, faultV (0, 0)]) at hq
    rw [← whole_eq (f := Doing.cells) (us := l ++ [upD A, tickD 40]) rfl] at hp
    repeat' (first | (apply dt rfl; case h => exact S_litO (els := []) _ rfl rfl rfl rfl rfl) | (apply Wa; constructor) | refine Wb rfl ?_ | refine Wc rfl ?_ | refine Wd (by kernel_rfl) ?_ | refine We rfl ?_ | refine Wf rfl ?_ | refine Wg rfl (by omega) ?_ | refine Wh rfl (by omega) ?_ | refine Wi rfl rfl ?_ | ((first | apply dX rfl | apply Da rfl rfl | apply Db rfl rfl (by intro h; first | trivial | exact ⟨h, trivial⟩ | exact ⟨h, h, trivial⟩)); (focus ((try intro hg); first | exact S_call law7_alive rfl | exact S_call ht40 rfl | exact S_call htd rfl | exact S_appM (f := Doing.cells) (us := []) (bs := l) rfl rfl (.dat _ _) rfl rfl (.inr ⟨rfl, inferInstance⟩) rfl (by simp only [List.length_nil]; omega) | exact S_appM (f := Doing.cells) (us := l) (bs := [upD A, tickD 40]) rfl rfl (.dat _ _) rfl rfl (.inr ⟨rfl, inferInstance⟩) rfl (by simp only [List.length_cons, List.length_nil]; omega) | exact S_call hp rfl | exact S_call ha2 rfl | exact S_call ha1 rfl | exact S_call hq rfl | exact S_call hsn rfl | exact Ca rfl rfl (by constructor) (by omega) | exact Cb rfl rfl (by constructor) (by omega) | exact S_al rfl | exact S_bx rfl rfl | exact S_store rfl rfl rfl rfl rfl rfl | (apply Pu.ok; repeat' (first | rfl | exact .inK (by simp only [InK]; omega) | exact .wr | constructor | decide | omega)))); constructor) | refine Pa rfl rfl rfl rfl rfl ?_ | refine Po rfl rfl rfl rfl rfl ?_ | fail)
    refine ret1 rfl (by first | exact .inl rfl | exact .inr (flat_of rfl)) ?_
    rfl
end Go.Proofs.Ytpgcemabkjmliaa
