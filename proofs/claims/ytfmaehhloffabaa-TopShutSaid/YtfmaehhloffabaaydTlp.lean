/- Contracts: talk.prior; talk.do, where it is called. -/
import Derived.Test.YtfmaehhloffabaaycTlk
import Derived.Test.YtfmaehhloffabaaycTln
namespace Go.Proofs.Ytfmaehhloffabaa
open Go.RowKit
attribute [local irreducible] SStep DW DWS DWin DOps thenQ inBlk loopQ loopQS endM retQ retQG FnF FnG FnI FnM Wk IntKind.wrap IntKind.andI IntKind.orI IntKind.xorI IntKind.andNotI IntKind.shlI IntKind.shrI
def memD (nb v : Nat) (ls : List Link) (CS : List D) (T : Mem) : Mem := (3, .cells false true [.sl 950 nb, .own 941 v 0 ls.length]) :: (941, .row v false true 6 (ls.map linkV)) :: (950, .cells false true CS) :: T
theorem modify_set {α : Type} {f : α → α} {x : α} : ∀ {l : List α} {k : Nat}, l[k]? = some x → l.modify k f = l.set k (f x)
  | [], k, h => by simp at h
  | a :: r, 0, h => by simp at h; subst h; simp
  | a :: r, k + 1, h => by
    rw [List.getElem?_cons_succ] at h
    simp [modify_set h]
theorem endM_r {P : Program} {res : List ResultVar} {r : V} {m' : Mem} {s : St} {xs : List V} (h : RetOK P s res xs) (he : pack xs = r) (hm : ∀ g, s.mem.at g = m'.at g) : endM P res r m' .ret s := by
  unfold endM; exact ⟨⟨xs, h, he⟩, hm⟩
theorem at_two {g : Nat} {b b' : Box} {M : Mem} : ∀ g', Mem.at ((g, b) :: (g, b') :: M) g' = Mem.at ((g, b) :: M) g' := fun g' => by
  show look Box.gone ((g, b) :: (g, b') :: M) g' = look Box.gone ((g, b) :: M) g'
  rw [look_cons, look_cons, look_cons]
  split
  · rfl
  · rfl
section
variable (nb v : Nat) (ls : List Link) (CS : List D) (T : Mem)
set_option maxHeartbeats 4000000 in
/-- A link goes up, or down. -/
theorem do_up (d : Doing) (hk : d.kind = 2 ∨ d.kind = 3) (A : Nat) (hA : d.n = A) (l : Link) (hx : ls[A]? = some l) :
    FnM Try.prog 29 [.ptr 3 0, .dat false (.rp d.cells)] (memD nb v ls CS T) (.dat true (.int .i64 0)) ((941, .row v false true 6 ((ls.set A { l with up := decide (d.kind = 2) }).map linkV)) :: memD nb v ls CS T) := by
  refine fnM_of Try.func29 rfl rfl rfl ?_
  obtain ⟨kind, dn, tree, value⟩ := d
  simp only at hk hA
  subst hA
  simp only [envD, memD, Doing.cells]
  have hml : (ls.map linkV).length = ls.length := by simp
  have hA := (List.getElem?_eq_some_iff.1 hx).1
  have hx' : ls[(A : Int).toNat]? = some l := hx
  have hmx : (ls.map linkV)[(A : Int).toNat]? = some (linkV l) := by rw [List.getElem?_map, hx']; rfl
  have hil : (A : Int) < ls.length := by omega
  rcases hk with hk | hk
  · rw [decide_eq_true hk]
    repeat' (first | (apply Va; constructor) | (apply Wa; constructor) | refine Wb rfl ?_ | refine Wc rfl ?_ | refine Wd (by kernel_rfl) ?_ | refine DWS_cond_t rfl ?_ | refine DWS_cond_f rfl ?_ | refine Vg rfl (by omega) ?_ | refine Vh rfl (by omega) ?_ | refine Wi rfl rfl ?_ | ((first | apply dX rfl | apply Da rfl rfl | apply Db rfl rfl (by intro h; first | trivial | exact ⟨h, trivial⟩ | exact ⟨h, h, trivial⟩)); (focus ((try intro hg); first | exact S_ixO rfl rfl rfl (by omega) hil | exact S_storeM (f := linkV) (a := { l with up := true }) rfl rfl hx' rfl rfl (.inr ⟨rfl, inferInstance⟩) rfl rfl | exact Ca rfl rfl (by constructor) (by omega) | exact Cb rfl rfl (by constructor) (by omega) | exact S_al rfl | exact S_bx rfl rfl | exact S_store rfl rfl rfl rfl rfl rfl | (apply Pu.ok; repeat' (first | rfl | exact .inK (by simp only [InK]; omega) | exact .wr | constructor | decide | omega)))); constructor) | refine Pa rfl rfl rfl rfl rfl ?_ | refine Po rfl rfl rfl rfl rfl ?_ | fail)
    refine endM_r (.tmp rfl (by first | exact .inl rfl | exact .inr (flat_of rfl)) .nil) rfl ?_
    exact fun _ => rfl
  · rw [decide_eq_false (by omega)]
    repeat' (first | (apply Va; constructor) | (apply Wa; constructor) | refine Wb rfl ?_ | refine Wc rfl ?_ | refine Wd (by kernel_rfl) ?_ | refine DWS_cond_t rfl ?_ | refine DWS_cond_f rfl ?_ | refine Vg rfl (by omega) ?_ | refine Vh rfl (by omega) ?_ | refine Wi rfl rfl ?_ | ((first | apply dX rfl | apply Da rfl rfl | apply Db rfl rfl (by intro h; first | trivial | exact ⟨h, trivial⟩ | exact ⟨h, h, trivial⟩)); (focus ((try intro hg); first | exact S_ixO rfl rfl rfl (by omega) hil | exact S_storeM (f := linkV) (a := { l with up := false }) rfl rfl hx' rfl rfl (.inr ⟨rfl, inferInstance⟩) rfl rfl | exact Ca rfl rfl (by constructor) (by omega) | exact Cb rfl rfl (by constructor) (by omega) | exact S_al rfl | exact S_bx rfl rfl | exact S_store rfl rfl rfl rfl rfl rfl | (apply Pu.ok; repeat' (first | rfl | exact .inK (by simp only [InK]; omega) | exact .wr | constructor | decide | omega)))); constructor) | refine Pa rfl rfl rfl rfl rfl ?_ | refine Po rfl rfl rfl rfl rfl ?_ | fail)
    refine endM_r (.tmp rfl (by first | exact .inl rfl | exact .inr (flat_of rfl)) .nil) rfl ?_
    exact fun _ => rfl
set_option maxHeartbeats 4000000 in
/-- A link costs something else. -/
theorem do_cost (d : Doing) (hk : d.kind = 4) (A : Nat) (hA : d.n = A) (l : Link) (hx : ls[A]? = some l) (hv : 1 ≤ d.value ∧ d.value ≤ 200000) :
    FnM Try.prog 29 [.ptr 3 0, .dat false (.rp d.cells)] (memD nb v ls CS T) (.dat true (.int .i64 0)) ((941, .row v false true 6 ((ls.set A { l with cost := d.value }).map linkV)) :: memD nb v ls CS T) := by
  refine fnM_of Try.func29 rfl rfl rfl ?_
  obtain ⟨kind, dn, tree, value⟩ := d
  simp only at hk hA hv
  subst hA
  simp only [envD, memD, Doing.cells]
  have hml : (ls.map linkV).length = ls.length := by simp
  have hA := (List.getElem?_eq_some_iff.1 hx).1
  have hx' : ls[(A : Int).toNat]? = some l := hx
  have hil : (A : Int) < ls.length := by omega
  repeat' (first | (apply Va; constructor) | (apply Wa; constructor) | refine Wb rfl ?_ | refine Wc rfl ?_ | refine Wd (by kernel_rfl) ?_ | refine DWS_cond_t rfl ?_ | refine DWS_cond_f rfl ?_ | refine Vg rfl (by omega) ?_ | refine Vh rfl (by omega) ?_ | refine Wi rfl rfl ?_ | ((first | apply dX rfl | apply Da rfl rfl | apply Db rfl rfl (by intro h; first | trivial | exact ⟨h, trivial⟩ | exact ⟨h, h, trivial⟩)); (focus ((try intro hg); first | exact S_ixO rfl rfl rfl (by omega) hil | exact S_storeM (f := linkV) (a := { l with cost := value }) rfl rfl hx' rfl rfl (.inr ⟨rfl, inferInstance⟩) rfl rfl | exact Ca rfl rfl (by constructor) (by omega) | exact Cb rfl rfl (by constructor) (by omega) | exact S_al rfl | exact S_bx rfl rfl | exact S_store rfl rfl rfl rfl rfl rfl | (apply Pu.ok; repeat' (first | rfl | exact .inK (by simp only [InK]; omega) | exact .wr | constructor | decide | omega)))); constructor) | refine Pa rfl rfl rfl rfl rfl ?_ | refine Po rfl rfl rfl rfl rfl ?_ | fail)
  refine endM_r (.tmp rfl (by first | exact .inl rfl | exact .inr (flat_of rfl)) .nil) rfl ?_
  exact fun _ => rfl
set_option maxHeartbeats 4000000 in
/-- There is no such link. -/
theorem do_none (d : Doing) (hk : d.kind = 2 ∨ d.kind = 3 ∨ d.kind = 4) (hn : d.n < 0 ∨ (ls.length : Int) ≤ d.n) :
    FnM Try.prog 29 [.ptr 3 0, .dat false (.rp d.cells)] (memD nb v ls CS T) (.dat true (.int .i64 6)) (memD nb v ls CS T) := by
  refine fnM_of Try.func29 rfl rfl rfl ?_
  obtain ⟨kind, dn, tree, value⟩ := d
  simp only at hk hn
  simp only [envD, memD, Doing.cells]
  rcases hk with hk | hk | hk <;> by_cases h0 : dn < 0
  · repeat' (first | (apply Va; constructor) | (apply Wa; constructor) | refine Wb rfl ?_ | refine Wc rfl ?_ | refine Wd (by kernel_rfl) ?_ | refine DWS_cond_t rfl ?_ | refine DWS_cond_f rfl ?_ | refine Vg rfl (by omega) ?_ | refine Vh rfl (by omega) ?_ | refine Wi rfl rfl ?_ | ((first | apply dX rfl | apply Da rfl rfl | apply Db rfl rfl (by intro h; first | trivial | exact ⟨h, trivial⟩ | exact ⟨h, h, trivial⟩)); (focus ((try intro hg); first | exact Ca rfl rfl (by constructor) (by omega) | exact Cb rfl rfl (by constructor) (by omega) | exact S_al rfl | exact S_bx rfl rfl | exact S_store rfl rfl rfl rfl rfl rfl | (apply Pu.ok; repeat' (first | rfl | exact .inK (by simp only [InK]; omega) | exact .wr | constructor | decide | omega)))); constructor) | refine Pa rfl rfl rfl rfl rfl ?_ | refine Po rfl rfl rfl rfl rfl ?_ | fail)
    refine endM_r (.tmp rfl (by first | exact .inl rfl | exact .inr (flat_of rfl)) .nil) rfl ?_
    exact fun _ => rfl
  · repeat' (first | (apply Va; constructor) | (apply Wa; constructor) | refine Wb rfl ?_ | refine Wc rfl ?_ | refine Wd (by kernel_rfl) ?_ | refine DWS_cond_t rfl ?_ | refine DWS_cond_f rfl ?_ | refine Vg rfl (by omega) ?_ | refine Vh rfl (by omega) ?_ | refine Wi rfl rfl ?_ | ((first | apply dX rfl | apply Da rfl rfl | apply Db rfl rfl (by intro h; first | trivial | exact ⟨h, trivial⟩ | exact ⟨h, h, trivial⟩)); (focus ((try intro hg); first | exact Ca rfl rfl (by constructor) (by omega) | exact Cb rfl rfl (by constructor) (by omega) | exact S_al rfl | exact S_bx rfl rfl | exact S_store rfl rfl rfl rfl rfl rfl | (apply Pu.ok; repeat' (first | rfl | exact .inK (by simp only [InK]; omega) | exact .wr | constructor | decide | omega)))); constructor) | refine Pa rfl rfl rfl rfl rfl ?_ | refine Po rfl rfl rfl rfl rfl ?_ | fail)
    refine endM_r (.tmp rfl (by first | exact .inl rfl | exact .inr (flat_of rfl)) .nil) rfl ?_
    exact fun _ => rfl
  · repeat' (first | (apply Va; constructor) | (apply Wa; constructor) | refine Wb rfl ?_ | refine Wc rfl ?_ | refine Wd (by kernel_rfl) ?_ | refine DWS_cond_t rfl ?_ | refine DWS_cond_f rfl ?_ | refine Vg rfl (by omega) ?_ | refine Vh rfl (by omega) ?_ | refine Wi rfl rfl ?_ | ((first | apply dX rfl | apply Da rfl rfl | apply Db rfl rfl (by intro h; first | trivial | exact ⟨h, trivial⟩ | exact ⟨h, h, trivial⟩)); (focus ((try intro hg); first | exact Ca rfl rfl (by constructor) (by omega) | exact Cb rfl rfl (by constructor) (by omega) | exact S_al rfl | exact S_bx rfl rfl | exact S_store rfl rfl rfl rfl rfl rfl | (apply Pu.ok; repeat' (first | rfl | exact .inK (by simp only [InK]; omega) | exact .wr | constructor | decide | omega)))); constructor) | refine Pa rfl rfl rfl rfl rfl ?_ | refine Po rfl rfl rfl rfl rfl ?_ | fail)
    refine endM_r (.tmp rfl (by first | exact .inl rfl | exact .inr (flat_of rfl)) .nil) rfl ?_
    exact fun _ => rfl
  · repeat' (first | (apply Va; constructor) | (apply Wa; constructor) | refine Wb rfl ?_ | refine Wc rfl ?_ | refine Wd (by kernel_rfl) ?_ | refine DWS_cond_t rfl ?_ | refine DWS_cond_f rfl ?_ | refine Vg rfl (by omega) ?_ | refine Vh rfl (by omega) ?_ | refine Wi rfl rfl ?_ | ((first | apply dX rfl | apply Da rfl rfl | apply Db rfl rfl (by intro h; first | trivial | exact ⟨h, trivial⟩ | exact ⟨h, h, trivial⟩)); (focus ((try intro hg); first | exact Ca rfl rfl (by constructor) (by omega) | exact Cb rfl rfl (by constructor) (by omega) | exact S_al rfl | exact S_bx rfl rfl | exact S_store rfl rfl rfl rfl rfl rfl | (apply Pu.ok; repeat' (first | rfl | exact .inK (by simp only [InK]; omega) | exact .wr | constructor | decide | omega)))); constructor) | refine Pa rfl rfl rfl rfl rfl ?_ | refine Po rfl rfl rfl rfl rfl ?_ | fail)
    refine endM_r (.tmp rfl (by first | exact .inl rfl | exact .inr (flat_of rfl)) .nil) rfl ?_
    exact fun _ => rfl
  · repeat' (first | (apply Va; constructor) | (apply Wa; constructor) | refine Wb rfl ?_ | refine Wc rfl ?_ | refine Wd (by kernel_rfl) ?_ | refine DWS_cond_t rfl ?_ | refine DWS_cond_f rfl ?_ | refine Vg rfl (by omega) ?_ | refine Vh rfl (by omega) ?_ | refine Wi rfl rfl ?_ | ((first | apply dX rfl | apply Da rfl rfl | apply Db rfl rfl (by intro h; first | trivial | exact ⟨h, trivial⟩ | exact ⟨h, h, trivial⟩)); (focus ((try intro hg); first | exact Ca rfl rfl (by constructor) (by omega) | exact Cb rfl rfl (by constructor) (by omega) | exact S_al rfl | exact S_bx rfl rfl | exact S_store rfl rfl rfl rfl rfl rfl | (apply Pu.ok; repeat' (first | rfl | exact .inK (by simp only [InK]; omega) | exact .wr | constructor | decide | omega)))); constructor) | refine Pa rfl rfl rfl rfl rfl ?_ | refine Po rfl rfl rfl rfl rfl ?_ | fail)
    refine endM_r (.tmp rfl (by first | exact .inl rfl | exact .inr (flat_of rfl)) .nil) rfl ?_
    exact fun _ => rfl
  · repeat' (first | (apply Va; constructor) | (apply Wa; constructor) | refine Wb rfl ?_ | refine Wc rfl ?_ | refine Wd (by kernel_rfl) ?_ | refine DWS_cond_t rfl ?_ | refine DWS_cond_f rfl ?_ | refine Vg rfl (by omega) ?_ | refine Vh rfl (by omega) ?_ | refine Wi rfl rfl ?_ | ((first | apply dX rfl | apply Da rfl rfl | apply Db rfl rfl (by intro h; first | trivial | exact ⟨h, trivial⟩ | exact ⟨h, h, trivial⟩)); (focus ((try intro hg); first | exact Ca rfl rfl (by constructor) (by omega) | exact Cb rfl rfl (by constructor) (by omega) | exact S_al rfl | exact S_bx rfl rfl | exact S_store rfl rfl rfl rfl rfl rfl | (apply Pu.ok; repeat' (first | rfl | exact .inK (by simp only [InK]; omega) | exact .wr | constructor | decide | omega)))); constructor) | refine Pa rfl rfl rfl rfl rfl ?_ | refine Po rfl rfl rfl rfl rfl ?_ | fail)
    refine endM_r (.tmp rfl (by first | exact .inl rfl | exact .inr (flat_of rfl)) .nil) rfl ?_
    exact fun _ => rfl
set_option maxHeartbeats 4000000 in
/-- No link costs that. -/
theorem do_dear (d : Doing) (hk : d.kind = 4) (hn : 0 ≤ d.n ∧ d.n < (ls.length : Int)) (hv : d.value < 1 ∨ 200000 < d.value) :
    FnM Try.prog 29 [.ptr 3 0, .dat false (.rp d.cells)] (memD nb v ls CS T) (.dat true (.int .i64 3)) (memD nb v ls CS T) := by
  refine fnM_of Try.func29 rfl rfl rfl ?_
  obtain ⟨kind, dn, tree, value⟩ := d
  simp only at hk hn hv
  simp only [envD, memD, Doing.cells]
  by_cases h0 : value < 1
  · repeat' (first | (apply Va; constructor) | (apply Wa; constructor) | refine Wb rfl ?_ | refine Wc rfl ?_ | refine Wd (by kernel_rfl) ?_ | refine DWS_cond_t rfl ?_ | refine DWS_cond_f rfl ?_ | refine Vg rfl (by omega) ?_ | refine Vh rfl (by omega) ?_ | refine Wi rfl rfl ?_ | ((first | apply dX rfl | apply Da rfl rfl | apply Db rfl rfl (by intro h; first | trivial | exact ⟨h, trivial⟩ | exact ⟨h, h, trivial⟩)); (focus ((try intro hg); first | exact Ca rfl rfl (by constructor) (by omega) | exact Cb rfl rfl (by constructor) (by omega) | exact S_al rfl | exact S_bx rfl rfl | exact S_store rfl rfl rfl rfl rfl rfl | (apply Pu.ok; repeat' (first | rfl | exact .inK (by simp only [InK]; omega) | exact .wr | constructor | decide | omega)))); constructor) | refine Pa rfl rfl rfl rfl rfl ?_ | refine Po rfl rfl rfl rfl rfl ?_ | fail)
    refine endM_r (.tmp rfl (by first | exact .inl rfl | exact .inr (flat_of rfl)) .nil) rfl ?_
    exact fun _ => rfl
  · repeat' (first | (apply Va; constructor) | (apply Wa; constructor) | refine Wb rfl ?_ | refine Wc rfl ?_ | refine Wd (by kernel_rfl) ?_ | refine DWS_cond_t rfl ?_ | refine DWS_cond_f rfl ?_ | refine Vg rfl (by omega) ?_ | refine Vh rfl (by omega) ?_ | refine Wi rfl rfl ?_ | ((first | apply dX rfl | apply Da rfl rfl | apply Db rfl rfl (by intro h; first | trivial | exact ⟨h, trivial⟩ | exact ⟨h, h, trivial⟩)); (focus ((try intro hg); first | exact Ca rfl rfl (by constructor) (by omega) | exact Cb rfl rfl (by constructor) (by omega) | exact S_al rfl | exact S_bx rfl rfl | exact S_store rfl rfl rfl rfl rfl rfl | (apply Pu.ok; repeat' (first | rfl | exact .inK (by simp only [InK]; omega) | exact .wr | constructor | decide | omega)))); constructor) | refine Pa rfl rfl rfl rfl rfl ?_ | refine Po rfl rfl rfl rfl rfl ?_ | fail)
    refine endM_r (.tmp rfl (by first | exact .inl rfl | exact .inr (flat_of rfl)) .nil) rfl ?_
    exact fun _ => rfl
set_option maxHeartbeats 4000000 in
/-- There is no such thing to do. -/
theorem do_kind (d : Doing) (h2 : d.kind ≠ 2) (h3 : d.kind ≠ 3) (h4 : d.kind ≠ 4) (h5 : d.kind ≠ 5) :
    FnM Try.prog 29 [.ptr 3 0, .dat false (.rp d.cells)] (memD nb v ls CS T) (.dat true (.int .i64 1)) (memD nb v ls CS T) := by
  refine fnM_of Try.func29 rfl rfl rfl ?_
  obtain ⟨kind, dn, tree, value⟩ := d
  simp only at h2 h3 h4 h5
  simp only [envD, memD, Doing.cells]
  repeat' (first | (apply Va; constructor) | (apply Wa; constructor) | refine Wb rfl ?_ | refine Wc rfl ?_ | refine Wd (by kernel_rfl) ?_ | refine DWS_cond_t rfl ?_ | refine DWS_cond_f rfl ?_ | refine Vg rfl (by omega) ?_ | refine Vh rfl (by omega) ?_ | refine Wi rfl rfl ?_ | ((first | apply dX rfl | apply Da rfl rfl | apply Db rfl rfl (by intro h; first | trivial | exact ⟨h, trivial⟩ | exact ⟨h, h, trivial⟩)); (focus ((try intro hg); first | exact Ca rfl rfl (by constructor) (by omega) | exact Cb rfl rfl (by constructor) (by omega) | exact S_al rfl | exact S_bx rfl rfl | exact S_store rfl rfl rfl rfl rfl rfl | (apply Pu.ok; repeat' (first | rfl | exact .inK (by simp only [InK]; omega) | exact .wr | constructor | decide | omega)))); constructor) | refine Pa rfl rfl rfl rfl rfl ?_ | refine Po rfl rfl rfl rfl rfl ?_ | fail)
  refine endM_r (.tmp rfl (by first | exact .inl rfl | exact .inr (flat_of rfl)) .nil) rfl ?_
  exact fun _ => rfl
end
end Go.Proofs.Ytfmaehhloffabaa
namespace Go.Proofs.Ytfmaehhloffabaa
open Go.RowKit
def memQ (nb v : Nat) (ls : List Link) (CS : List D) (B : Box) (T : Mem) : Mem := memD nb v ls CS ((960, B) :: T)
def netQ (KT : List Nat) : List Nat := 3 :: 941 :: 950 :: 960 :: KT
structure FrmT (CS : List D) (B : Box) (T : Mem) (KT : List Nat) : Prop where
  out : ∀ g, g ∉ KT → T.at g = .gone
  row : ∀ g, T.at g = .gone ∨ ∃ ver sz xs, T.at g = .row ver false true sz xs
  cs : ∀ d ∈ CS, ∀ g, refD d = some g → g = 960 ∨ g ∈ KT
  b : B = .gone ∨ ∃ ver sz xs, B = .row ver false true sz xs
theorem memQ_at {nb v : Nat} {ls : List Link} {CS : List D} {B : Box} {T : Mem} (g : Nat) : Mem.at (memQ nb v ls CS B T) g = if 3 = g then .cells false true [.sl 950 nb, .own 941 v 0 ls.length] else if 941 = g then .row v false true 6 (ls.map linkV) else if 950 = g then .cells false true CS else if 960 = g then B else T.at g := by
  unfold memQ memD
  show look Box.gone _ g = _
  rw [look_cons, look_cons, look_cons, look_cons]; rfl
section
variable {nb v : Nat} {ls : List Link} {CS : List D} {B : Box} {T : Mem} {KT : List Nat} (h : FrmT CS B T KT)
include h
theorem memQ_out (g : Nat) (hg : g ∉ netQ KT) : Mem.at (memQ nb v ls CS B T) g = .gone := by
  unfold netQ at hg
  simp only [List.mem_cons, not_or] at hg
  rw [memQ_at, if_neg (fun e => hg.1 e.symm), if_neg (fun e => hg.2.1 e.symm), if_neg (fun e => hg.2.2.1 e.symm), if_neg (fun e => hg.2.2.2.1 e.symm)]
  exact h.out g hg.2.2.2.2
theorem memQ_cl (g : Nat) (frz nw : Bool) (cs : List D) (hg : Mem.at (memQ nb v ls CS B T) g = .cells frz nw cs) : ∀ d ∈ cs, inKD (netQ KT) d := by
  rw [memQ_at] at hg
  split at hg
  · injection hg with _ _ hg
    subst hg
    intro d hd g hr
    rcases List.mem_cons.1 hd with rfl | hd
    · injection hr with hr; subst hr; rfl
    · rcases List.mem_cons.1 hd with rfl | hd
      · injection hr with hr; subst hr; rfl
      · cases hd
  · split at hg
    · cases hg
    · split at hg
      · injection hg with _ _ hg
        subst hg
        intro d hd g hr
        refine has_iff.2 ?_
        unfold netQ
        rcases h.cs d hd g hr with rfl | hk
        · simp
        · simp [hk]
      · split at hg
        · rcases h.b with e | ⟨_, _, _, e⟩ <;> rw [e] at hg <;> cases hg
        · rcases h.row g with e | ⟨_, _, _, e⟩ <;> rw [e] at hg <;> cases hg
theorem memQ_mut (g : Nat) (hg : Mem.at (memQ nb v ls CS B T) g ≠ .gone) : (Mem.at (memQ nb v ls CS B T) g).mut = true := by
  rw [memQ_at] at hg ⊢
  split
  · rfl
  · split
    · rfl
    · split
      · rfl
      · rename_i h1 h2 h3
        rw [if_neg h1, if_neg h2, if_neg h3] at hg
        split
        · rename_i h4
          rw [if_pos h4] at hg
          rcases h.b with e | ⟨_, _, _, e⟩
          · exact absurd e hg
          · rw [e]; rfl
        · rename_i h4
          rw [if_neg h4] at hg
          rcases h.row g with e | ⟨_, _, _, e⟩
          · exact absurd e hg
          · rw [e]; rfl
end
attribute [local irreducible] SStep DW DWS DWin DOps thenQ inBlk loopQ loopQS endM retQ retQG FnF FnG FnI FnM Wk IntKind.wrap IntKind.andI IntKind.orI IntKind.xorI IntKind.andNotI IntKind.shlI IntKind.shrI
section
variable (nb v : Nat) (ls : List Link) (CS : List D) (T : Mem)
set_option maxHeartbeats 4000000 in
theorem prior_none (d : Doing) (hn : d.n < 0 ∨ (nb : Int) ≤ d.n) : FnM Try.prog 51 [.ptr 3 0, .dat false (.rp d.cells)] (memD nb v ls CS T) (.dat true (.int .i64 6)) (memD nb v ls CS T) := by
  refine fnM_of Try.func51 rfl rfl rfl ?_
  obtain ⟨kind, dn, tree, value⟩ := d
  simp only at hn
  simp only [envD, memD, Doing.cells]
  by_cases h0 : dn < 0
  · repeat' (first | (apply Va; constructor) | (apply Wa; constructor) | refine Wb rfl ?_ | refine Wc rfl ?_ | refine Wd (by kernel_rfl) ?_ | refine DWS_cond_t rfl ?_ | refine DWS_cond_f rfl ?_ | refine Vg rfl (by omega) ?_ | refine Vh rfl (by omega) ?_ | refine Wi rfl rfl ?_ | ((first | apply dX rfl | apply Da rfl rfl | apply Db rfl rfl (by intro h; first | trivial | exact ⟨h, trivial⟩ | exact ⟨h, h, trivial⟩)); (focus ((try intro hg); first | exact S_len_sl rfl | exact Ca rfl rfl (by constructor) (by omega) | exact Cb rfl rfl (by constructor) (by omega) | exact S_al rfl | exact S_bx rfl rfl | exact S_store rfl rfl rfl rfl rfl rfl | (apply Pu.ok; repeat' (first | rfl | exact .inK (by simp only [InK]; omega) | exact .wr | constructor | decide | omega)))); constructor) | refine Pa rfl rfl rfl rfl rfl ?_ | refine Po rfl rfl rfl rfl rfl ?_ | fail)
    refine endM_r (.tmp rfl (by first | exact .inl rfl | exact .inr (flat_of rfl)) .nil) rfl ?_
    exact fun _ => rfl
  · repeat' (first | (apply Va; constructor) | (apply Wa; constructor) | refine Wb rfl ?_ | refine Wc rfl ?_ | refine Wd (by kernel_rfl) ?_ | refine DWS_cond_t rfl ?_ | refine DWS_cond_f rfl ?_ | refine Vg rfl (by omega) ?_ | refine Vh rfl (by omega) ?_ | refine Wi rfl rfl ?_ | ((first | apply dX rfl | apply Da rfl rfl | apply Db rfl rfl (by intro h; first | trivial | exact ⟨h, trivial⟩ | exact ⟨h, h, trivial⟩)); (focus ((try intro hg); first | exact S_len_sl rfl | exact Ca rfl rfl (by constructor) (by omega) | exact Cb rfl rfl (by constructor) (by omega) | exact S_al rfl | exact S_bx rfl rfl | exact S_store rfl rfl rfl rfl rfl rfl | (apply Pu.ok; repeat' (first | rfl | exact .inK (by simp only [InK]; omega) | exact .wr | constructor | decide | omega)))); constructor) | refine Pa rfl rfl rfl rfl rfl ?_ | refine Po rfl rfl rfl rfl rfl ?_ | fail)
    refine endM_r (.tmp rfl (by first | exact .inl rfl | exact .inr (flat_of rfl)) .nil) rfl ?_
    exact fun _ => rfl
set_option maxHeartbeats 4000000 in
theorem prior_bad (d : Doing) (hn : 0 ≤ d.n ∧ d.n < (nb : Int)) (hv : d.tree < 0 ∨ 15 < d.tree ∨ d.value < 0 ∨ 61440 < d.value ∨ d.value.tmod 4096 ≠ 0) : FnM Try.prog 51 [.ptr 3 0, .dat false (.rp d.cells)] (memD nb v ls CS T) (.dat true (.int .i64 3)) (memD nb v ls CS T) := by
  refine fnM_of Try.func51 rfl rfl rfl ?_
  obtain ⟨kind, dn, tree, value⟩ := d
  simp only at hn hv
  simp only [envD, memD, Doing.cells]
  by_cases h0 : tree < 0
  · repeat' (first | (apply Va; constructor) | (apply Wa; constructor) | refine Wb rfl ?_ | refine Wc rfl ?_ | refine Wd (by kernel_rfl) ?_ | refine DWS_cond_t rfl ?_ | refine DWS_cond_f rfl ?_ | refine Vg rfl (by omega) ?_ | refine Vh rfl (by omega) ?_ | refine Wi rfl rfl ?_ | ((first | apply dX rfl | apply Da rfl rfl | apply Db rfl rfl (by intro h; first | trivial | exact ⟨h, trivial⟩ | exact ⟨h, h, trivial⟩)); (focus ((try intro hg); first | exact S_len_sl rfl | exact Ca rfl rfl (by constructor) (by omega) | exact Cb rfl rfl (by constructor) (by omega) | exact S_al rfl | exact S_bx rfl rfl | exact S_store rfl rfl rfl rfl rfl rfl | (apply Pu.ok; repeat' (first | rfl | exact .inK (by simp only [InK]; omega) | exact .wr | constructor | decide | omega)))); constructor) | refine Pa rfl rfl rfl rfl rfl ?_ | refine Po rfl rfl rfl rfl rfl ?_ | fail)
    refine endM_r (.tmp rfl (by first | exact .inl rfl | exact .inr (flat_of rfl)) .nil) rfl ?_
    exact fun _ => rfl
  by_cases h1 : 15 < tree
  · repeat' (first | (apply Va; constructor) | (apply Wa; constructor) | refine Wb rfl ?_ | refine Wc rfl ?_ | refine Wd (by kernel_rfl) ?_ | refine DWS_cond_t rfl ?_ | refine DWS_cond_f rfl ?_ | refine Vg rfl (by omega) ?_ | refine Vh rfl (by omega) ?_ | refine Wi rfl rfl ?_ | ((first | apply dX rfl | apply Da rfl rfl | apply Db rfl rfl (by intro h; first | trivial | exact ⟨h, trivial⟩ | exact ⟨h, h, trivial⟩)); (focus ((try intro hg); first | exact S_len_sl rfl | exact Ca rfl rfl (by constructor) (by omega) | exact Cb rfl rfl (by constructor) (by omega) | exact S_al rfl | exact S_bx rfl rfl | exact S_store rfl rfl rfl rfl rfl rfl | (apply Pu.ok; repeat' (first | rfl | exact .inK (by simp only [InK]; omega) | exact .wr | constructor | decide | omega)))); constructor) | refine Pa rfl rfl rfl rfl rfl ?_ | refine Po rfl rfl rfl rfl rfl ?_ | fail)
    refine endM_r (.tmp rfl (by first | exact .inl rfl | exact .inr (flat_of rfl)) .nil) rfl ?_
    exact fun _ => rfl
  by_cases h2 : value < 0
  · repeat' (first | (apply Va; constructor) | (apply Wa; constructor) | refine Wb rfl ?_ | refine Wc rfl ?_ | refine Wd (by kernel_rfl) ?_ | refine DWS_cond_t rfl ?_ | refine DWS_cond_f rfl ?_ | refine Vg rfl (by omega) ?_ | refine Vh rfl (by omega) ?_ | refine Wi rfl rfl ?_ | ((first | apply dX rfl | apply Da rfl rfl | apply Db rfl rfl (by intro h; first | trivial | exact ⟨h, trivial⟩ | exact ⟨h, h, trivial⟩)); (focus ((try intro hg); first | exact S_len_sl rfl | exact Ca rfl rfl (by constructor) (by omega) | exact Cb rfl rfl (by constructor) (by omega) | exact S_al rfl | exact S_bx rfl rfl | exact S_store rfl rfl rfl rfl rfl rfl | (apply Pu.ok; repeat' (first | rfl | exact .inK (by simp only [InK]; omega) | exact .wr | constructor | decide | omega)))); constructor) | refine Pa rfl rfl rfl rfl rfl ?_ | refine Po rfl rfl rfl rfl rfl ?_ | fail)
    refine endM_r (.tmp rfl (by first | exact .inl rfl | exact .inr (flat_of rfl)) .nil) rfl ?_
    exact fun _ => rfl
  by_cases h3 : 61440 < value
  · repeat' (first | (apply Va; constructor) | (apply Wa; constructor) | refine Wb rfl ?_ | refine Wc rfl ?_ | refine Wd (by kernel_rfl) ?_ | refine DWS_cond_t rfl ?_ | refine DWS_cond_f rfl ?_ | refine Vg rfl (by omega) ?_ | refine Vh rfl (by omega) ?_ | refine Wi rfl rfl ?_ | ((first | apply dX rfl | apply Da rfl rfl | apply Db rfl rfl (by intro h; first | trivial | exact ⟨h, trivial⟩ | exact ⟨h, h, trivial⟩)); (focus ((try intro hg); first | exact S_len_sl rfl | exact Ca rfl rfl (by constructor) (by omega) | exact Cb rfl rfl (by constructor) (by omega) | exact S_al rfl | exact S_bx rfl rfl | exact S_store rfl rfl rfl rfl rfl rfl | (apply Pu.ok; repeat' (first | rfl | exact .inK (by simp only [InK]; omega) | exact .wr | constructor | decide | omega)))); constructor) | refine Pa rfl rfl rfl rfl rfl ?_ | refine Po rfl rfl rfl rfl rfl ?_ | fail)
    refine endM_r (.tmp rfl (by first | exact .inl rfl | exact .inr (flat_of rfl)) .nil) rfl ?_
    exact fun _ => rfl
  · have h4 : value.tmod 4096 ≠ 0 := by omega
    repeat' (first | (apply Va; constructor) | (apply Wa; constructor) | refine Wb rfl ?_ | refine Wc rfl ?_ | refine Wd (by kernel_rfl) ?_ | refine DWS_cond_t rfl ?_ | refine DWS_cond_f rfl ?_ | refine Vg rfl (by omega) ?_ | refine Vh rfl (by omega) ?_ | refine Wi rfl rfl ?_ | ((first | apply dX rfl | apply Da rfl rfl | apply Db rfl rfl (by intro h; first | trivial | exact ⟨h, trivial⟩ | exact ⟨h, h, trivial⟩)); (focus ((try intro hg); first | exact S_len_sl rfl | exact Ca rfl rfl (by constructor) (by omega) | exact Cb rfl rfl (by constructor) (by omega) | exact S_al rfl | exact S_bx rfl rfl | exact S_store rfl rfl rfl rfl rfl rfl | (apply Pu.ok; repeat' (first | rfl | exact .inK (by simp only [InK]; omega) | exact .wr | constructor | decide | omega)))); constructor) | refine Pa rfl rfl rfl rfl rfl ?_ | refine Po rfl rfl rfl rfl rfl ?_ | fail)
    refine endM_r (.tmp rfl (by first | exact .inl rfl | exact .inr (flat_of rfl)) .nil) rfl ?_
    exact fun _ => rfl
end
theorem at_swap {x x' y y' : Box} {M : Mem} (g : Nat) : Mem.at ((950, x) :: (960, y) :: (960, y') :: (950, x') :: M) g = Mem.at ((960, y) :: (950, x) :: M) g := by
  show look Box.gone _ g = look Box.gone _ g
  rw [look_cons, look_cons, look_cons, look_cons, look_cons, look_cons]
  by_cases h1 : 950 = g
  · rw [if_pos h1, if_neg (by omega), if_pos h1]
  · rw [if_neg h1, if_neg h1, if_neg h1]
    by_cases h2 : 960 = g
    · rw [if_pos h2, if_pos h2]
    · rw [if_neg h2, if_neg h2, if_neg h2]
theorem at_same {x y : Box} {b3 b941 : Box} {T : Mem} (g : Nat) : Mem.at ((3, b3) :: (941, b941) :: (950, x) :: (960, y) :: T) g = Mem.at ((960, y) :: (950, x) :: (3, b3) :: (941, b941) :: (950, x) :: (960, y) :: T) g := by
  show look Box.gone _ g = look Box.gone _ g
  rw [look_cons, look_cons, look_cons, look_cons, look_cons, look_cons, look_cons, look_cons, look_cons, look_cons]
  by_cases h1 : 960 = g
  · rw [if_pos h1, if_pos h1, if_neg (by omega), if_neg (by omega), if_neg (by omega)]
  · simp only [if_neg h1]
    by_cases h2 : 950 = g
    · simp only [if_pos h2]
      rw [if_neg (by omega), if_neg (by omega)]
    · simp only [if_neg h2]
theorem at_60 {y y' x : Box} {M : Mem} (g : Nat) : Mem.at ((960, y) :: (960, y') :: (950, x) :: M) g = Mem.at ((960, y) :: (950, x) :: M) g := at_two g
def padI (ps : List Int) (k : Nat) : List Int := ps ++ List.replicate k 32768
theorem padI_len (ps : List Int) (k : Nat) : (padI ps k).length = ps.length + k := by unfold padI; simp
theorem padI_step (ps : List Int) (k : Nat) : padI ps k ++ [32768] = padI ps (k + 1) := by unfold padI; rw [List.append_assoc, List.replicate_succ']
section
variable (nb v : Nat) (ls : List Link) (CS : List D) (T : Mem)
set_option maxHeartbeats 4000000 in
theorem prior_set (d : Doing) (A : Nat) (hA : d.n = A) (hn : A < nb) (tr : Nat) (htr : d.tree = tr) (hv : tr ≤ 15 ∧ 0 ≤ d.value ∧ d.value ≤ 61440 ∧ d.value.tmod 4096 = 0) (ps : List Int) (_hps : ps.length ≤ 16) (hCS : CS.length = nb * 5) :
    FnM Try.prog 51 [.ptr 3 0, .dat false (.rp d.cells)] (memQ nb v ls (CS.set (A * 5 + 1) (.own 960 0 0 ps.length)) (.row 0 false true 1 (ps.map intV1)) T) (.dat true (.int .i64 0))
      ((960, .row (tr + 1 - ps.length) false true 1 ((setPrio ps tr d.value).map intV1)) :: (950, .cells false true (CS.set (A * 5 + 1) (.own 960 (tr + 1 - ps.length) 0 (setPrio ps tr d.value).length))) :: memQ nb v ls (CS.set (A * 5 + 1) (.own 960 0 0 ps.length)) (.row 0 false true 1 (ps.map intV1)) T) := by
  refine fnM_of Try.func51 rfl rfl rfl ?_
  obtain ⟨kind, dn, tree, value⟩ := d
  simp only at hA htr hv ⊢
  subst hA
  subst htr
  obtain ⟨v1, v2, v3, v4⟩ := hv
  simp only [envD, memQ, memD, Doing.cells]
  have hAl : A * 5 + 1 < CS.length := by omega
  have hg : ∀ x : D, (CS.set (A * 5 + 1) x)[((A : Nat) : Int).toNat * 5 + 1]? = some x := fun x => by rw [Int.toNat_natCast, List.getElem?_set_self hAl]
  have hb : ∀ x : D, Nat.ble (((A : Nat) : Int).toNat * 5 + 1 + 1) (CS.set (A * 5 + 1) x).length = true := fun x => Nat.ble_eq_true_of_le (by rw [List.length_set, Int.toNat_natCast]; omega)
  have hs : ∀ x y : D, splice (CS.set (A * 5 + 1) x) (((A : Nat) : Int).toNat * 5 + 1) [y] = CS.set (A * 5 + 1) y := fun x y => by
    rw [Int.toNat_natCast, splice_set (by rw [List.length_set]; exact hAl), List.set_set]
  generalize A * 5 + 1 = p at hg hb hs
  repeat' (first | (apply Va; constructor) | (apply Wa; constructor) | refine Wb rfl ?_ | refine Wc rfl ?_ | refine Wd (by kernel_rfl) ?_ | refine DWS_cond_t rfl ?_ | refine DWS_cond_f rfl ?_ | refine Vg rfl (by omega) ?_ | refine Vh rfl (by omega) ?_ | refine Wi rfl rfl ?_ | ((first | apply dX rfl | apply Da rfl rfl | apply Db rfl rfl (by intro h; first | trivial | exact ⟨h, trivial⟩ | exact ⟨h, h, trivial⟩)); (focus ((try intro hg); first | exact S_len_sl rfl | exact S_ix_sl rfl rfl (by omega) (by omega) | exact Ca rfl rfl (by constructor) (by omega) | exact Cb rfl rfl (by constructor) (by omega) | exact S_al rfl | exact S_bx rfl rfl | exact S_store rfl rfl rfl rfl rfl rfl | (apply Pu.ok; repeat' (first | rfl | exact .inK (by simp only [InK]; omega) | exact .wr | constructor | decide | omega)))); constructor) | refine Pa rfl rfl rfl rfl rfl ?_ | refine Po rfl rfl rfl rfl rfl ?_ | fail)
  refine DWS_loop (fun k : Nat => ⟨[(1, .dat false (.rp [.int .i64 kind, .int .i64 A, .int .i64 tr, .int .i64 value])), (5, .ptr 950 (((A : Nat) : Int).toNat * 5))],
      (960, .row k false true 1 ((padI ps k).map intV1)) :: (950, .cells false true (CS.set p (.own 960 k 0 (padI ps k).length))) :: (3, .cells false true [.sl 950 nb, .own 941 v 0 ls.length]) :: (941, .row v false true 6 (ls.map linkV)) :: (950, .cells false true (CS.set p (.own 960 0 0 ps.length))) :: (960, .row 0 false true 1 (ps.map intV1)) :: T, 100⟩)
    (fun k => k ≤ tr + 1 - ps.length) (fun k => tr + 1 - ps.length - k) 0 (Nat.zero_le _)
    ⟨rfl, fun g => by rw [show padI ps 0 = ps from by unfold padI; simp]; exact at_same g, by repeat' (first | exact slots_nil | exact .inl rfl | exact .inr (.inl ⟨_, rfl, rfl⟩) | apply slots_cons)⟩ (fun k hk => ?_)
  have hpl := padI_len ps k
  by_cases hlt : k < tr + 1 - ps.length
  · have hst := padI_step ps k
    repeat' (first | (apply Va; constructor) | (apply Wa; constructor) | refine Wb rfl ?_ | refine Wc rfl ?_ | refine Wd (by kernel_rfl) ?_ | refine DWS_cond_t rfl ?_ | refine DWS_cond_f rfl ?_ | refine Vg rfl (by omega) ?_ | refine Vh rfl (by omega) ?_ | refine Wi rfl rfl ?_ | ((first | apply dX rfl | apply Da rfl rfl | apply Db rfl rfl (by intro h; first | trivial | exact ⟨h, trivial⟩ | exact ⟨h, h, trivial⟩)); (focus ((try intro hg); first | exact S_load_ptr rfl rfl (hg (.own 960 k 0 (padI ps k).length)) | exact S_appM (f := intV1) (us := padI ps k) (bs := [32768]) rfl rfl (.dat _ _) rfl rfl (.inr ⟨rfl, inferInstance⟩) rfl (by simp only [List.length_singleton]; omega) | exact S_store rfl rfl rfl rfl rfl (hb (.own 960 k 0 (padI ps k).length)) | exact Ca rfl rfl (by constructor) (by omega) | exact Cb rfl rfl (by constructor) (by omega) | exact S_al rfl | exact S_bx rfl rfl | exact S_store rfl rfl rfl rfl rfl rfl | (apply Pu.ok; repeat' (first | rfl | exact .inK (by simp only [InK]; omega) | exact .wr | constructor | decide | omega)))); constructor) | refine Pa rfl rfl rfl rfl rfl ?_ | refine Po rfl rfl rfl rfl rfl ?_ | fail)
    refine loopS_again (k + 1) hlt (by omega) ⟨rfl, fun g => ?_, by repeat' (first | exact slots_nil | exact .inl rfl | exact .inr (.inl ⟨_, rfl, rfl⟩) | apply slots_cons)⟩
    rw [hst, hs]
    exact at_swap g
  · have hkk : k = tr + 1 - ps.length := by omega
    have htr : tr < (padI ps k).length := by omega
    have hu : (padI ps k)[(tr : Int).toNat]? = some ((padI ps k)[tr]'htr) := List.getElem?_eq_getElem _
    have hsp : setPrio ps tr value = (padI ps k).set tr value := by unfold setPrio padI; rw [hkk]
    have hsl : (setPrio ps tr value).length = (padI ps k).length := by rw [hsp, List.length_set]
    repeat' (first | (apply Va; constructor) | (apply Wa; constructor) | refine Wb rfl ?_ | refine Wc rfl ?_ | refine Wd (by kernel_rfl) ?_ | refine DWS_cond_t rfl ?_ | refine DWS_cond_f rfl ?_ | refine Vg rfl (by omega) ?_ | refine Vh rfl (by omega) ?_ | refine Wi rfl rfl ?_ | ((first | apply dX rfl | apply Da rfl rfl | apply Db rfl rfl (by intro h; first | trivial | exact ⟨h, trivial⟩ | exact ⟨h, h, trivial⟩)); (focus ((try intro hg); first | exact S_load_ptr rfl rfl (hg (.own 960 k 0 (padI ps k).length)) | exact S_ixO rfl rfl rfl (by omega) (by omega) | exact S_storeM (f := intV1) (a := value) rfl rfl hu rfl rfl (.inr ⟨rfl, inferInstance⟩) rfl rfl | exact Ca rfl rfl (by constructor) (by omega) | exact Cb rfl rfl (by constructor) (by omega) | exact S_al rfl | exact S_bx rfl rfl | exact S_store rfl rfl rfl rfl rfl rfl | (apply Pu.ok; repeat' (first | rfl | exact .inK (by simp only [InK]; omega) | exact .wr | constructor | decide | omega)))); constructor) | refine Pa rfl rfl rfl rfl rfl ?_ | refine Po rfl rfl rfl rfl rfl ?_ | fail)
    refine endM_r (.tmp rfl (by first | exact .inl rfl | exact .inr (flat_of rfl)) .nil) rfl ?_
    rw [hsl, hsp, ← hkk]
    exact at_60
end
end Go.Proofs.Ytfmaehhloffabaa
