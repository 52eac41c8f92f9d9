/- Contracts: slices.SortFunc of ends by ports; slices.Sort of numbers. -/
import Derived.Test.YtfmaehhloffabaaycTlo
import Derived.Shelf.SlLaysF0
import Derived.Shelf.SlLaysNS
import Derived.Test.YtfmaehhloffabaaProg
import Derived.Sort.Grow
import Derived.Test.YtfmaehhloffabaaybInp
import Derived.Shelf.SlSortCmp.NoneTotal
import Derived.Shelf.SortG.Plain
import Derived.Shelf.SortG.SortNone
import Derived.Test.YtfmaehhloffabaaycChM
namespace Go.Proofs.Ytfmaehhloffabaa
def rAt (m : Mind) (j : Nat) : Int := (m.roles[j]?).getD 0
def cAt (m : Mind) (j : Nat) : Int := (m.calm[j]?).getD 0
def ixI (p : Int) : List Int → Option Nat
  | [] => none
  | x :: r => if x = p then some 0 else (ixI p r).map (· + 1)
theorem ixI_some {p : Int} : ∀ {l : List Int} {k : Nat}, ixI p l = some k → l[k]? = some p
  | [], k, h => by cases h
  | x :: r, k, h => by
    unfold ixI at h
    split at h
    · rename_i e
      injection h with h
      subst h; rw [e]; rfl
    · obtain ⟨k', hk, rfl⟩ := Option.map_eq_some_iff.1 h
      rw [List.getElem?_cons_succ]; exact ixI_some hk
theorem ixI_none {p : Int} : ∀ {l : List Int}, ixI p l = none → p ∉ l
  | [], _, h => by simp at h
  | x :: r, h, hm => by
    unfold ixI at h
    split at h
    · cases h
    · rename_i hne
      have := Option.map_eq_none_iff.1 h
      rcases List.mem_cons.1 hm with e | e
      · exact hne e.symm
      · exact ixI_none this e
def opensM (m : Mind) (p : Int) : Bool := match ixI p m.ports with
  | none => false
  | some k => decide (k < m.calm.length) && decide (50 ≤ cAt m k)
def opensT (t : List (List Mind)) (tree bridge port : Int) : Bool :=
  if tree < 0 ∨ (t.length : Int) ≤ tree ∨ bridge < 0 then false else match (t[tree.toNat]?).getD [] with
    | l => if (l.length : Int) ≤ bridge then false else opensM (mAt l bridge.toNat) port
theorem mindOf_calm {n : Net} {tree : Int} {i : Nat} {ends : List End} {l : List Mind} {j : Nat} (hj : j < (portsOf n.links i).length) : cAt (mindOf n tree i ends l) j = calmOf (rAt (mindOf n tree i ends l) j) (cAt (mAt l i) j) := by
  show ((calmsOf _ _)[j]?).getD 0 = _
  unfold calmsOf
  rw [List.getElem?_map, List.getElem?_range (by rw [rolesP_len]; exact hj)]
  rfl
theorem calm_tk {n : Net} {tree : Int} {l : List Mind} {k i j : Nat} (hi : i < l.length) (hj : j < (portsOf n.links i).length) : cAt (mAt (tkN n tree l (k + 1)) i) j = calmOf (rAt (mAt (tkN n tree l (k + 1)) i) j) (cAt (mAt (tkN n tree l k) i) j) := by
  rw [tkN_at hi]; exact mindOf_calm hj
theorem calmOf_le (r c : Int) (h : 0 ≤ c) : calmOf r c ≤ c + 1 ∧ calmOf r c ≤ 50 ∧ 0 ≤ calmOf r c := by
  unfold calmOf; repeat' split
  all_goals omega
theorem calm_back {n : Net} {tree : Int} {l : List Mind} {i j : Nat} (hi : i < l.length) (hj : j < (portsOf n.links i).length) (h0 : 0 ≤ cAt (mAt l i) j) : ∀ k, 0 ≤ cAt (mAt (tkN n tree l k) i) j ∧ cAt (mAt (tkN n tree l k) i) j ≤ cAt (mAt l i) j + k
  | 0 => ⟨h0, by show cAt (mAt l i) j ≤ _; omega⟩
  | k + 1 => by
    have ih := calm_back (tree := tree) hi hj h0 k
    rw [calm_tk hi hj]
    have := calmOf_le (rAt (mAt (tkN n tree l (k + 1)) i) j) _ ih.1
    omega
theorem calm_on {n : Net} {tree : Int} {l : List Mind} {i j : Nat} (hi : i < l.length) (hj : j < (portsOf n.links i).length) {a : Nat} (h0 : 0 ≤ cAt (mAt (tkN n tree l a) i) j) (hr : ∀ s, rAt (mAt (tkN n tree l (a + (s + 1))) i) j = 1 ∨ rAt (mAt (tkN n tree l (a + (s + 1))) i) j = 2) :
    ∀ s : Nat, (if (s : Int) < 50 then (s : Int) else 50) ≤ cAt (mAt (tkN n tree l (a + s)) i) j
  | 0 => by simpa using h0
  | s + 1 => by
    have ih := calm_on hi hj h0 hr s
    have := hr s
    rw [show a + (s + 1) = (a + s) + 1 by omega] at this ⊢
    rw [calm_tk hi hj]
    unfold calmOf
    rw [if_pos this]
    split at ih <;> split <;> split <;> omega
section
variable {n : Net} (h : n.good) (tree : Int)
include h
theorem opens_at {l : List Mind} (hl : l.length = n.bridges.length) (hc : ∀ i j, 0 ≤ cAt (mAt l i) j) {i : Nat} (hi : i < n.bridges.length) {T : Nat} (hT : 90 ≤ T) {p : Int} (hp : p ∈ portsOf n.links i) :
    opensM (mAt (tkN n tree l T) i) p = decide (roleF n tree i p = 1 ∨ roleF n tree i p = 2) := by
  have st := settle_roles h tree hl hi (T := T) (by omega)
  unfold opensM
  rw [st.ports]
  cases hx : ixI p (portsOf n.links i) with
  | none => exact absurd hp (ixI_none hx)
  | some k =>
    have hk := ixI_some hx
    have hkl := (List.getElem?_eq_some_iff.1 hk).1
    have hr : ∀ T, 33 ≤ T → rAt (mAt (tkN n tree l T) i) k = roleF n tree i p := fun T hT => by
      have st := settle_roles h tree hl hi (T := T) hT
      unfold rAt
      rw [st.roles, List.getElem?_map, hk]; rfl
    have hlen : k < (mAt (tkN n tree l T) i).calm.length := by
      obtain ⟨T', rfl⟩ : ∃ T', T = T' + 1 := ⟨T - 1, by omega⟩
      rw [tkN_at (by omega)]
      show k < (calmsOf _ _).length
      rw [calmsOf_len, rolesP_len]; exact hkl
    simp only [decide_eq_true hlen, Bool.true_and]
    by_cases hq : roleF n tree i p = 1 ∨ roleF n tree i p = 2
    · rw [decide_eq_true hq]
      have := calm_on (n := n) (tree := tree) (l := l) (i := i) (j := k) (by omega) hkl (a := 33) (calm_back (by omega) hkl (hc i k) 33).1 (fun s => by rw [hr _ (by omega)]; exact hq) (T - 33)
      rw [show 33 + (T - 33) = T by omega, if_neg (by omega)] at this
      exact decide_eq_true this
    · rw [decide_eq_false hq]
      obtain ⟨T', rfl⟩ : ∃ T', T = T' + 1 := ⟨T - 1, by omega⟩
      rw [calm_tk (by omega) hkl, hr _ (by omega)]
      unfold calmOf
      rw [if_neg hq]
      rfl
end
end Go.Proofs.Ytfmaehhloffabaa
namespace Go.Proofs.Ytfmaehhloffabaa
open Go.Shelf
def sortEnds_ren : Go.Shelf.Ren := ⟨fun | 6 => 35 | 15 => 55 | 14 => 54 | 28 => 71 | 29 => 72 | 20 => 63 | 21 => 64 | 22 => 65 | 23 => 66 | 24 => 67 | 25 => 68 | 26 => 69 | 27 => 70 | 46 => 86 | 47 => 87 | 48 => 88 | 49 => 89 | 50 => 90 | 57 => 96 | n => n, fun | 22 => 81 | 24 => 105 | 25 => 107 | 3 => 3 | 39 => 66 | 0 => 0 | 53 => 146 | 55 => 41 | 4 => 4 | 46 => 139 | 45 => 138 | 50 => 143 | 5 => 5 | 9 => 9 | 66 => 156 | 70 => 160 | 76 => 166 | 77 => 167 | n => n, fun | n => n⟩
theorem sortEnds : Go.Proofs.SlLaysF0.n6 Try.prog sortEnds_ren := {
  mixed := by kernel_rfl
  f6 := ⟨Try.f35.name, by decide, Try.func35.trans (congrArg some (by kernel_rfl))⟩
  f14 := ⟨Try.f54.name, by decide, Try.func54.trans (congrArg some (by kernel_rfl))⟩
  f15 := Try.func55.trans (congrArg some (by kernel_rfl))
  f20 := ⟨Try.f63.name, by decide, Try.func63.trans (congrArg some (by kernel_rfl))⟩
  f21 := ⟨Try.f64.name, by decide, Try.func64.trans (congrArg some (by kernel_rfl))⟩
  f22 := ⟨Try.f65.name, by decide, Try.func65.trans (congrArg some (by kernel_rfl))⟩
  f23 := ⟨Try.f66.name, by decide, Try.func66.trans (congrArg some (by kernel_rfl))⟩
  f24 := ⟨Try.f67.name, by decide, Try.func67.trans (congrArg some (by kernel_rfl))⟩
  f25 := ⟨Try.f68.name, by decide, Try.func68.trans (congrArg some (by kernel_rfl))⟩
  f26 := ⟨Try.f69.name, by decide, Try.func69.trans (congrArg some (by kernel_rfl))⟩
  f27 := ⟨Try.f70.name, by decide, Try.func70.trans (congrArg some (by kernel_rfl))⟩
  f28 := Try.func71.trans (congrArg some (by kernel_rfl))
  f29 := Try.func72.trans (congrArg some (by kernel_rfl))
  f46 := ⟨Try.f86.name, by decide, Try.func86.trans (congrArg some (by kernel_rfl))⟩
  f47 := Try.func87.trans (congrArg some (by kernel_rfl))
  f48 := Try.func88.trans (congrArg some (by kernel_rfl))
  f49 := ⟨Try.f89.name, by decide, Try.func89.trans (congrArg some (by kernel_rfl))⟩
  f50 := ⟨Try.f90.name, by decide, Try.func90.trans (congrArg some (by kernel_rfl))⟩
  f57 := ⟨Try.f96.name, by decide, Try.func96.trans (congrArg some (by kernel_rfl))⟩
  t0 := Try.underlying0
  a0 := Try.isAgg0
  z0 := Try.sizeOf0
  v0 := Try.zeroValue0
  t3 := Try.underlying3
  a3 := Try.isAgg3
  z3 := Try.sizeOf3
  v3 := Try.zeroValue3
  t4 := Try.underlying4
  a4 := Try.isAgg4
  z4 := Try.sizeOf4
  v4 := Try.zeroValue4
  t5 := Try.underlying5
  a5 := Try.isAgg5
  z5 := Try.sizeOf5
  v5 := Try.zeroValue5
  t9 := Try.underlying9
  a9 := Try.isAgg9
  z9 := Try.sizeOf9
  v9 := Try.zeroValue9
  t22 := Try.underlying81
  a22 := Try.isAgg81
  z22 := Try.sizeOf81
  v22 := Try.zeroValue81
  t25 := Try.underlying107
  a25 := Try.isAgg107
  z25 := Try.sizeOf107
  v25 := Try.zeroValue107
  t39 := Try.underlying66
  a39 := Try.isAgg66
  z39 := Try.sizeOf66
  v39 := Try.zeroValue66
  t45 := Try.underlying138
  a45 := Try.isAgg138
  z45 := Try.sizeOf138
  v45 := Try.zeroValue138
  t46 := Try.underlying139
  a46 := Try.isAgg139
  z46 := Try.sizeOf139
  v46 := Try.zeroValue139
  t50 := Try.underlying143
  a50 := Try.isAgg143
  z50 := Try.sizeOf143
  v50 := Try.zeroValue143
  t53 := Try.underlying146
  a53 := Try.isAgg146
  z53 := Try.sizeOf146
  v53 := Try.zeroValue146
  t55 := Try.underlying41
  a55 := Try.isAgg41
  z55 := Try.sizeOf41
  v55 := Try.zeroValue41
  t66 := Try.underlying156
  a66 := Try.isAgg156
  z66 := Try.sizeOf156
  v66 := Try.zeroValue156
  t70 := Try.underlying160
  a70 := Try.isAgg160
  z70 := Try.sizeOf160
  v70 := Try.zeroValue160
  t76 := Try.underlying166
  a76 := Try.isAgg166
  z76 := Try.sizeOf166
  v76 := Try.zeroValue166
  t77 := Try.underlying167
  a77 := Try.isAgg167
  z77 := Try.sizeOf167
  v77 := Try.zeroValue167 }
def sortInts_ren : Go.Shelf.Ren := ⟨fun | 53 => 43 | 64 => 55 | 63 => 61 | 78 => 71 | 79 => 72 | 70 => 77 | 71 => 78 | 72 => 79 | 73 => 80 | 74 => 81 | 75 => 82 | 59 => 83 | 76 => 84 | 77 => 85 | 88 => 93 | 89 => 87 | 90 => 88 | 91 => 94 | 92 => 95 | 68 => 76 | 96 => 99 | n => n, fun | 22 => 44 | 23 => 3 | 3 => 3 | 51 => 66 | 0 => 0 | 67 => 146 | 69 => 41 | 4 => 4 | 61 => 139 | 60 => 138 | 44 => 143 | 5 => 5 | 9 => 9 | 75 => 156 | 79 => 160 | 83 => 166 | 84 => 167 | n => n, fun | n => n⟩
theorem sortInts : Go.Proofs.SlLaysN.n53 Try.prog sortInts_ren := {
  mixed := by kernel_rfl
  f53 := ⟨Try.f43.name, by decide, Try.func43.trans (congrArg some (by kernel_rfl))⟩
  f59 := ⟨Try.f83.name, by decide, Try.func83.trans (congrArg some (by kernel_rfl))⟩
  f63 := ⟨Try.f61.name, by decide, Try.func61.trans (congrArg some (by kernel_rfl))⟩
  f64 := Try.func55.trans (congrArg some (by kernel_rfl))
  f68 := ⟨Try.f76.name, by decide, Try.func76.trans (congrArg some (by kernel_rfl))⟩
  f70 := ⟨Try.f77.name, by decide, Try.func77.trans (congrArg some (by kernel_rfl))⟩
  f71 := ⟨Try.f78.name, by decide, Try.func78.trans (congrArg some (by kernel_rfl))⟩
  f72 := ⟨Try.f79.name, by decide, Try.func79.trans (congrArg some (by kernel_rfl))⟩
  f73 := ⟨Try.f80.name, by decide, Try.func80.trans (congrArg some (by kernel_rfl))⟩
  f74 := ⟨Try.f81.name, by decide, Try.func81.trans (congrArg some (by kernel_rfl))⟩
  f75 := ⟨Try.f82.name, by decide, Try.func82.trans (congrArg some (by kernel_rfl))⟩
  f76 := ⟨Try.f84.name, by decide, Try.func84.trans (congrArg some (by kernel_rfl))⟩
  f77 := ⟨Try.f85.name, by decide, Try.func85.trans (congrArg some (by kernel_rfl))⟩
  f78 := Try.func71.trans (congrArg some (by kernel_rfl))
  f79 := Try.func72.trans (congrArg some (by kernel_rfl))
  f88 := ⟨Try.f93.name, by decide, Try.func93.trans (congrArg some (by kernel_rfl))⟩
  f89 := Try.func87.trans (congrArg some (by kernel_rfl))
  f90 := Try.func88.trans (congrArg some (by kernel_rfl))
  f91 := ⟨Try.f94.name, by decide, Try.func94.trans (congrArg some (by kernel_rfl))⟩
  f92 := ⟨Try.f95.name, by decide, Try.func95.trans (congrArg some (by kernel_rfl))⟩
  f96 := ⟨Try.f99.name, by decide, Try.func99.trans (congrArg some (by kernel_rfl))⟩
  t0 := Try.underlying0
  a0 := Try.isAgg0
  z0 := Try.sizeOf0
  v0 := Try.zeroValue0
  t3 := Try.underlying3
  a3 := Try.isAgg3
  z3 := Try.sizeOf3
  v3 := Try.zeroValue3
  t4 := Try.underlying4
  a4 := Try.isAgg4
  z4 := Try.sizeOf4
  v4 := Try.zeroValue4
  t5 := Try.underlying5
  a5 := Try.isAgg5
  z5 := Try.sizeOf5
  v5 := Try.zeroValue5
  t9 := Try.underlying9
  a9 := Try.isAgg9
  z9 := Try.sizeOf9
  v9 := Try.zeroValue9
  t22 := Try.underlying44
  a22 := Try.isAgg44
  z22 := Try.sizeOf44
  v22 := Try.zeroValue44
  t23 := Try.underlying3
  a23 := Try.isAgg3
  z23 := Try.sizeOf3
  v23 := Try.zeroValue3
  t44 := Try.underlying143
  a44 := Try.isAgg143
  z44 := Try.sizeOf143
  v44 := Try.zeroValue143
  t51 := Try.underlying66
  a51 := Try.isAgg66
  z51 := Try.sizeOf66
  v51 := Try.zeroValue66
  t60 := Try.underlying138
  a60 := Try.isAgg138
  z60 := Try.sizeOf138
  v60 := Try.zeroValue138
  t61 := Try.underlying139
  a61 := Try.isAgg139
  z61 := Try.sizeOf139
  v61 := Try.zeroValue139
  t67 := Try.underlying146
  a67 := Try.isAgg146
  z67 := Try.sizeOf146
  v67 := Try.zeroValue146
  t69 := Try.underlying41
  a69 := Try.isAgg41
  z69 := Try.sizeOf41
  v69 := Try.zeroValue41
  t75 := Try.underlying156
  a75 := Try.isAgg156
  z75 := Try.sizeOf156
  v75 := Try.zeroValue156
  t79 := Try.underlying160
  a79 := Try.isAgg160
  z79 := Try.sizeOf160
  v79 := Try.zeroValue160
  t83 := Try.underlying166
  a83 := Try.isAgg166
  z83 := Try.sizeOf166
  v83 := Try.zeroValue166
  t84 := Try.underlying167
  a84 := Try.isAgg167
  z84 := Try.sizeOf167
  v84 := Try.zeroValue167 }
end Go.Proofs.Ytfmaehhloffabaa
namespace Go.Proofs.Ytfmaehhloffabaa
open Go.RowKit Go.Sort
theorem heap_map (w : World) (n b : Nat) (φ : Array Value → Array Value) (k : Nat) : (mapBlock (Sort.ahead w n) b φ).heap[k]? = if b = k then (w.heap[k]?).map (onCells φ) else w.heap[k]? := by
  show (w.heap.modify b (onCells φ))[k]? = _
  rw [Array.getElem?_modify]
theorem step_map {α : Type} {f : α → List V} {C : Cf} {m : Mem} {g b ver sz n : Nat} {nw : Bool} {us us' : List α} [hf : CellsI f sz] (hm : HoldsM C m) (hg : m.at g = .row ver false nw sz (us.map f)) (hi : C.ι g = some b) (hl : us'.length = us.length)
    (hint : ∀ a, ∀ d ∈ f a, ∃ k x, d = .int k x) (φ : Array Value → Array Value) (hs : ∀ arr, (φ arr).size = arr.size)
    (hφ : ∀ (arr : Array Value) (i j : Nat) (a : α) (d : V), us.length * sz ≤ arr.size → us'[i]? = some a → (f a)[j]? = some d → (φ arr)[i * sz + j]? = some d.val) :
    Step C m { C with w := mapBlock (Sort.ahead C.w n) b φ } ((g, .row ver false nw sz (us'.map f)) :: m) := by
  have hb := hm.box g
  rw [hg] at hb
  have hb' : RowAt C b false nw sz (us.map f) := by rw [hi] at hb; exact hb
  obtain ⟨arr, T, fz, h1, h2, h3, h4, h5, h6, h7⟩ := hb'
  have hnew : (mapBlock (Sort.ahead C.w n) b φ).heap[b]? = some (.cells (φ arr) T fz) := by rw [heap_map, if_pos rfl, h1]; rfl
  refine Step.write hm (by rw [hg]; rfl) hi rfl rfl rfl (by show (C.w.heap.modify b _).size = _; simp) (fun k hk => by rw [heap_map, if_neg (Ne.symm hk)]) ?_ ?_ ?_ ?_ (fun hd hslot => ?_)
  · rintro v0 lo len v ⟨ver', frz, nw', sz', xs, e1, e2, e3, e4⟩
    rw [hg] at e1
    injection e1 with z1 z2 z3 z4 z5
    subst z1 z2 z3 z4 z5
    refine ⟨ver, false, nw, sz, us'.map f, Mem.at_cons_same _ _ _, e2, e3, fun hv => ?_⟩
    obtain ⟨q1, q2⟩ := e4 hv
    refine ⟨by simpa [hl] using q1, ?_⟩
    unfold OwnV at *
    show (match C.ι g with | none => _ | some b => _)
    rw [hi] at q2 ⊢
    obtain ⟨cap, arr1, T1, fz1, y1, y2, y3, y4⟩ := q2
    rw [h1] at y2
    injection y2 with y2
    injection y2 with y5 y6 y7
    subst y5 y6 y7
    exact ⟨cap, φ arr, T, fz, y1, hnew, by rw [hs]; exact y3, y4⟩
  · rintro off v ⟨_, _, _, _, h, _⟩; rw [hg] at h; cases h
  · rintro v0 i off v ⟨ver', frz, nw', sz', xs, e1, e2, e3, e4⟩
    rw [hg] at e1
    injection e1 with z1 z2 z3 z4 z5
    subst z1 z2 z3 z4 z5
    refine ⟨ver, false, nw, sz, us'.map f, Mem.at_cons_same _ _ _, e2, e3, fun hv => ?_⟩
    obtain ⟨q1, q2⟩ := e4 hv
    exact ⟨by simpa [hl] using q1, q2⟩
  · rintro v ⟨_, _, _, _, h, _⟩; rw [hg] at h; cases h
  · refine ⟨φ arr, T, fz, hnew, ⟨fun i hi => h2.1 i (by rwa [hs] at hi), h2.2⟩, by rw [hs]; simpa [hl] using h3, fun i e he => ?_, fun i j e d he hd => ?_, fun i j e d c he hd hc => ?_, fun h => by cases h⟩
    · rw [List.getElem?_map] at he
      obtain ⟨a, _, rfl⟩ := Option.map_eq_some_iff.1 he
      exact hf.len a
    · rw [List.getElem?_map] at he
      obtain ⟨a, _, rfl⟩ := Option.map_eq_some_iff.1 he
      exact hf.one a d (List.mem_of_getElem? hd)
    · rw [List.getElem?_map] at he
      obtain ⟨a, ha, rfl⟩ := Option.map_eq_some_iff.1 he
      have := hφ arr i j a d (by simpa using h3) ha hd
      rw [this] at hc
      injection hc with hc
      subst hc
      obtain ⟨k, x, rfl⟩ := hint a d (List.mem_of_getElem? hd)
      exact Rd.int k x
theorem step_grow {C : Cf} {m : Mem} (os : Array Obj) (hm : HoldsM C m) : ∃ C', C'.w = grow C.w os ∧ Step C m C' m := by
  have hw : Grew C.w (grow C.w os) := ⟨rfl, rfl, rfl, by show _ ≤ (C.w.heap ++ os).size; simp, fun b hb => by
    show (C.w.heap ++ os)[b]? = _
    rw [Array.getElem?_append_left hb]⟩
  exact ⟨_, rfl, step_dat (w := grow C.w os) (fun _ => False) hm hw (fun _ h => h.elim)⟩
theorem row_holds {α : Type} {f : α → List V} {C : Cf} {b sz : Nat} {nw : Bool} {us : List α} (hr : RowAt C b false nw sz (us.map f)) (hsz : 0 < sz) [hf : CellsI f sz] (hint : ∀ a, ∀ d ∈ f a, ∃ k x, d = .int k x) {t : Nat} (ht : t < us.length * sz) :
    ∃ a d, us[t / sz]? = some a ∧ (f a)[t % sz]? = some d ∧ C.w.cell? ⟨b, t, none⟩ = some d.val ∧ C.w.frozen? ⟨b, t, none⟩ = false := by
  obtain ⟨arr, T, fz, h1, h2, h3, h4, h5, h6, h7⟩ := hr
  have hi : t / sz < us.length := Nat.div_lt_of_lt_mul (by rw [Nat.mul_comm]; exact ht)
  have hj : t % sz < sz := Nat.mod_lt _ hsz
  have hta : t < arr.size := by simp only [List.length_map] at h3; omega
  have ha : us[t / sz]? = some us[t / sz] := List.getElem?_eq_getElem hi
  generalize us[t / sz] = a at ha
  have hd : (f a)[t % sz]? = some ((f a)[t % sz]'(by rw [hf.len]; exact hj)) := List.getElem?_eq_getElem _
  generalize (f a)[t % sz]'(by rw [hf.len]; exact hj) = d at hd
  have he : t / sz * sz + t % sz = t := by rw [Nat.mul_comm]; exact Nat.div_add_mod t sz
  refine ⟨a, d, ha, hd, ?_, ?_⟩
  · have hc : arr[t]? = some arr[t] := Array.getElem?_eq_getElem hta
    have hr := h6 (t / sz) (t % sz) (f a) d arr[t] (by rw [List.getElem?_map, ha]; rfl) hd (by rw [he]; exact hc)
    obtain ⟨k, x, rfl⟩ := hint a d (List.mem_of_getElem? hd)
    have := rv_int hr
    rw [cell_of_arr h1, hc, this]; rfl
  · unfold World.frozen?
    rw [h1]
    have := h2.1 t hta
    simp only
    rw [Bool.eq_false_iff]
    intro h
    simp only [Bool.and_eq_true, decide_eq_true_eq] at h
    exact this h
end Go.Proofs.Ytfmaehhloffabaa
namespace Go.Proofs.Ytfmaehhloffabaa
open Go.RowKit Go.Sort Go.Shelf Go.Lib
theorem putCells_at (F arr : Array Value) (t : Nat) (h : t < F.size) (ha : F.size ≤ arr.size) : (putCells id 0 F arr)[t]? = some F[t]! := by
  unfold putCells
  rw [Array.getElem?_mapIdx, Array.getElem?_eq_getElem (by omega)]
  simp [h]
theorem putCells_size (F arr : Array Value) : (putCells id 0 F arr).size = arr.size := by simp [putCells]
theorem sortK_step {α β : Type} [Inhabited β] {f : α → List V} {g : β → α} {C : Cf} {m : Mem} {k b ver sz n : Nat} {nw : Bool} {us : List α} {d' : Array β} [hf : CellsI f sz] (hm : HoldsM C m) (hg : m.at k = .row ver false nw sz (us.map f)) (hi : C.ι k = some b) (hl : d'.size = us.length)
    (hint : ∀ a, ∀ d ∈ f a, ∃ k x, d = .int k x) (enc : β → List Value) (he : ∀ x, enc x = (f (g x)).map V.val) (os : Array Obj) :
    ∃ C', C'.w = sortWorldK enc sz C.w b 0 n d' os ∧ Step C m C' ((k, .row ver false nw sz ((d'.toList.map g).map f)) :: m) := by
  have hs := step_map (n := n) (us' := d'.toList.map g) hm hg hi (by simp [hl]) hint (putCells id 0 (flatK enc sz d')) (fun arr => putCells_size _ _) (fun arr i j a d h1 h2 h3 => by
    rw [List.getElem?_map, Option.map_eq_some_iff] at h2
    obtain ⟨x, hx, rfl⟩ := h2
    rw [Array.getElem?_toList] at hx
    have hid : i < d'.size := (Array.getElem?_eq_some_iff.1 hx).1
    have hj : j < sz := by
      have := (List.getElem?_eq_some_iff.1 h3).1
      rwa [hf.len] at this
    have hb : i * sz + j < d'.size * sz := by
      have := Nat.mul_le_mul_right sz (show i + 1 ≤ d'.size from hid)
      rw [Nat.add_mul, Nat.one_mul] at this; omega
    have e1 : (i * sz + j) / sz = i := (blk_iff sz i _ (by omega)).1 ⟨by omega, by omega⟩
    have e2 : (i * sz + j) % sz = j := by rw [Nat.mod_eq_sub_div_mul, e1]; omega
    rw [putCells_at _ _ _ (by rw [size_flatK]; exact hb) (by rw [size_flatK, hl]; exact h1), get_flatK _ _ _ _ hb, e1, e2]
    have hx' : d'[i]! = x := by rw [getElem!_pos d' i hid]; exact (Array.getElem?_eq_some_iff.1 hx).2
    rw [hx', he, List.getElem!_eq_getElem?_getD, List.getElem?_map, h3]; rfl)
  obtain ⟨C', e, hs'⟩ := step_grow (m := (k, .row ver false nw sz ((d'.toList.map g).map f)) :: m) os hs.holds
  exact ⟨C', e, hs.trans hs'⟩
theorem row_holdsK {α β : Type} [Inhabited β] {f : α → List V} {g : β → α} {C : Cf} {b sz : Nat} {nw : Bool} {us : List α} {d : Array β} (hr : RowAt C b false nw sz (us.map f)) (hsz : 0 < sz) [hf : CellsI f sz] (hint : ∀ a, ∀ d ∈ f a, ∃ k x, d = .int k x) (hd : d.toList.map g = us)
    (enc : β → List Value) (he : ∀ x, enc x = (f (g x)).map V.val) : HoldsK enc sz C.w b 0 d := by
  have hl : d.size = us.length := by rw [← hd]; simp
  intro t ht
  rw [size_flatK] at ht
  obtain ⟨a, x, h1, h2, h3, h4⟩ := row_holds hr hsz hint (t := t) (by rw [← hl]; exact ht)
  refine ⟨?_, by rw [Nat.zero_add]; exact h4⟩
  rw [Nat.zero_add, h3]
  show _ = some ((flatK enc sz d)[t]!)
  rw [get_flatK _ _ _ _ ht, he]
  have hi : t / sz < d.size := Nat.div_lt_of_lt_mul (by rw [Nat.mul_comm]; exact ht)
  have : g d[t / sz]! = a := by
    rw [← hd, List.getElem?_map, Array.getElem?_toList, Array.getElem?_eq_getElem hi] at h1
    rw [getElem!_pos d _ hi]; simpa using h1
  rw [this, List.getElem!_eq_getElem?_getD, List.getElem?_map, h2]; rfl
def encE (e : End) : List Value := [.int .i64 e.port, .int .i64 e.cost, .int .i64 e.other, .int .i64 e.oport]
theorem endV_int (a : End) : ∀ d ∈ endV a, ∃ k x, d = .int k x := fun d h => by
  simp only [endV, List.mem_cons, List.mem_nil_iff, or_false] at h
  rcases h with rfl | rfl | rfl | rfl <;> exact ⟨_, _, rfl⟩
theorem intV1_int (a : Int) : ∀ d ∈ intV1 a, ∃ k x, d = .int k x := fun d h => by
  simp only [intV1, List.mem_cons, List.mem_nil_iff, or_false] at h
  subst h; exact ⟨_, _, rfl⟩
abbrev EndIn (r : List End) := { e : End // (1 ≤ e.port ∧ e.port ≤ 30) ∧ e ∈ r }
set_option maxHeartbeats 1000000 in
theorem ends_cmp (x y : End) (hx : 1 ≤ x.port ∧ x.port ≤ 30) (hy : 1 ≤ y.port ∧ y.port ≤ 30) (W : World) : Calls Try.prog 36 #[.agg (encE x).toArray, .agg (encE y).toArray] W fun e w' => e = .returned (.int .i64 (x.port - y.port)) ∧ ∃ q os', w' = grow (W.drewN q) os' := by
  have hw : IntKind.i64.wrap (x.port - y.port) = x.port - y.port := wrap_in (by simp only [InK]; omega)
  unfold encE
  go_enter Try.func36, Try.ntmps36
  go_wp2
  go_ret
  exact ⟨rfl, 0, _, by rw [alloc_eq_grow, alloc_eq_grow, grow_grow]; rfl⟩
theorem ends_swo (r : List End) : SWO (ltOf fun x y : EndIn r => x.1.port - y.1.port) where
  irrefl x := by simp [ltOf]
  trans x y z h1 h2 := by simp [ltOf] at *; omega
  ntrans x y z h1 h2 := by simp [ltOf] at *; omega
theorem ends_eg : ∀ args w, (callFunc 36 args).run Try.prog w = .ok (.enter 36 args) w := enters_of Try.func36 (by kernel_rfl) rfl
theorem ends_SortFunc (r : List End) (hp : ∀ e ∈ r, 1 ≤ e.port ∧ e.port ≤ 30) (hn : r.length ≤ 1000) (hd : ∀ x ∈ r, ∀ y ∈ r, x.port = y.port → x = y) :
    FnI Try.prog 35 [.own 1000 0 0 r.length, .dat false (.fn 36 [])] [(1000, .row 0 false true 4 (r.map endV))] [(1000, .row 0 false true 4 ((sortE r).map endV))] := by
  refine ⟨⟨_, Try.func35, rfl, rfl⟩, ?_⟩
  intro C vs hm hvl hv
  match vs, hvl with
  | ⟨[v0, v1]⟩, _ =>
  have h0 := hv 0 _ v0 rfl rfl
  have h1 := hv 1 _ v1 rfl rfl
  have e1 : v1 = .func (.func 36) #[] #[] := by
    generalize he : v1 = u at h1
    cases h1 with
    | fn f cap vs hl hr => 
      have : vs = #[] := Array.eq_empty_of_size_eq_zero (by simpa using hl)
      subst this; rfl
  subst e1
  have hg : Mem.at [(1000, Box.row 0 false true 4 (r.map endV))] 1000 = .row 0 false true 4 (r.map endV) := rfl
  obtain ⟨ver, frz, nw, sz, xs, e1, e2, ⟨a, l, c, e3⟩, e4⟩ := h0
  rw [hg] at e1
  injection e1 with z1 z2 z3 z4 z5
  subst z1 z2 z3 z4 z5
  obtain ⟨e5, e6⟩ := e4 rfl
  have hbx := hm.box 1000
  rw [hg] at hbx
  unfold OwnV at e6
  by_cases hr0 : r = []
  · subst hr0
    have hv0 : ∃ p cp, v0 = .slice p 0 cp := by
      cases hi : C.ι 1000 with
      | none => rw [hi] at e6; exact ⟨_, _, e6.1⟩
      | some b => rw [hi] at e6; obtain ⟨cp, _, _, _, e7, _⟩ := e6; exact ⟨_, _, e7⟩
    obtain ⟨p, cp, rfl⟩ := hv0
    refine (AnyF.slices_SortFunc_none sortEnds p cp _ C.w).mono ?_
    rintro e w' ⟨rfl, rfl⟩
    exact ⟨_, C, rfl, rfl, by
      have : sortE [] = [] := by simp [sortE]
      rw [this]; exact Step.refl hm⟩
  · cases hi : C.ι 1000 with
    | none => rw [hi] at e6; exact absurd (List.length_eq_zero_iff.1 e6.2.2) hr0
    | some b =>
      rw [hi] at e6
      have hbx' : RowAt C b false true 4 (r.map endV) := by rw [hi] at hbx; exact hbx
      obtain ⟨cp, arr, T, fz, e7, e8, e9, e10⟩ := e6
      have hv0 : v0 = .slice (some ⟨b, 0, none⟩) r.length cp := by rw [e7, Nat.zero_mul]
      subst hv0
      obtain ⟨e0, he0⟩ := List.exists_mem_of_ne_nil r hr0
      letI : Inhabited (EndIn r) := ⟨⟨e0, hp e0 he0, he0⟩⟩
      let d : Array (EndIn r) := (r.pmap (fun e (h : (1 ≤ e.port ∧ e.port ≤ 30) ∧ e ∈ r) => ⟨e, h⟩) (fun e he => ⟨hp e he, he⟩)).toArray
      have hdl : d.toList.map (fun x => x.1) = r := by
        show (List.pmap _ r _).map _ = r
        rw [List.map_pmap, List.pmap_eq_map, List.map_id']
      have hds : d.size = r.length := by simp [d]
      have hbs : b < C.w.heap.size := (Array.getElem?_eq_some_iff.1 e8).1
      have hcon := AnyQ.slices_SortFunc_total sortEnds 4 Try.isAgg105 Try.sizeOf105 (fun x : EndIn r => encE x.1) (fun _ => rfl) (fun x v hv => by simp [encE] at hv; rcases hv with rfl | rfl | rfl | rfl <;> rfl) (fun x y => x.1.port - y.1.port) (ends_swo r)
        36 #[] b 0 cp d C.w ends_eg (fun _ _ _ _ x y => ends_cmp x.1 y.1 x.2.1 y.2.1 _) (row_holdsK (g := fun x : EndIn r => x.1) hbx' (by decide) endV_int hdl _ (fun _ => rfl)) hbs (by omega) (fun x y h1 h2 => Subtype.ext (hd x.1 x.2.2 y.1 y.2.2 (by simp [ltOf] at h1 h2; omega)))
      rw [hds] at hcon
      refine hcon.mono ?_
      rintro e w' ⟨rfl, n, os, rfl⟩
      obtain ⟨C', hC, hs⟩ := sortK_step (g := fun x : EndIn r => x.1) (n := n) (d' := (d.toList.mergeSort fun x y => !(ltOf fun x y : EndIn r => x.1.port - y.1.port) y x).toArray) hm hg hi (by simp [hds]) endV_int (fun x => encE x.1) (fun _ => rfl) os
      refine ⟨_, C', rfl, hC, ?_⟩
      have hsort : ((d.toList.mergeSort fun x y => !(ltOf fun x y : EndIn r => x.1.port - y.1.port) y x).toArray.toList.map fun x => x.1) = sortE r := by
        rw [List.toList_toArray, List.map_mergeSort (s := fun x y : End => decide (x.port ≤ y.port)) (fun x _ y _ => by simp [ltOf]; by_cases h : x.1.port ≤ y.1.port <;> simp [h] <;> omega), hdl]
        rfl
      rw [hsort] at hs
      exact ⟨Ext_congr (fun _ => rfl) (fun g => by show Mem.at _ g = Mem.at _ g; by_cases h : 1000 = g <;> simp [Mem.at, look_cons, h]) hs.ext, HoldsM_congr (fun g => by by_cases h : 1000 = g <;> simp [Mem.at, look_cons, h]) hs.holds, fun d v h => RdD_congr (fun g => by by_cases h : 1000 = g <;> simp [Mem.at, look_cons, h]) d v (hs.slot d v h)⟩
theorem putCells_atI (F : Array Int) (arr : Array Value) (t : Nat) (h : t < F.size) (ha : F.size ≤ arr.size) : (putCells (Value.int .i64) 0 F arr)[t]? = some (.int .i64 F[t]!) := by
  unfold putCells
  rw [Array.getElem?_mapIdx, Array.getElem?_eq_getElem (by omega)]
  simp [h]
theorem ints_Sort (r : List Int) (hn : r.length ≤ 1000) :
    FnI Try.prog 43 [.own 1000 0 0 r.length] [(1000, .row 0 false true 1 (r.map intV1))] [(1000, .row 0 false true 1 ((sortI r).map intV1))] := by
  refine ⟨⟨_, Try.func43, rfl, rfl⟩, ?_⟩
  intro C vs hm hvl hv
  match vs, hvl with
  | ⟨[v0]⟩, _ =>
  have h0 := hv 0 _ v0 rfl rfl
  have hg : Mem.at [(1000, Box.row 0 false true 1 (r.map intV1))] 1000 = .row 0 false true 1 (r.map intV1) := rfl
  obtain ⟨ver, frz, nw, sz, xs, e1, e2, ⟨a, l, c, e3⟩, e4⟩ := h0
  rw [hg] at e1
  injection e1 with z1 z2 z3 z4 z5
  subst z1 z2 z3 z4 z5
  obtain ⟨e5, e6⟩ := e4 rfl
  have hbx := hm.box 1000
  rw [hg] at hbx
  unfold OwnV at e6
  by_cases hr0 : r = []
  · subst hr0
    have hv0 : ∃ p cp, v0 = .slice p 0 cp := by
      cases hi : C.ι 1000 with
      | none => rw [hi] at e6; exact ⟨_, _, e6.1⟩
      | some b => rw [hi] at e6; obtain ⟨cp, _, _, _, e7, _⟩ := e6; exact ⟨_, _, e7⟩
    obtain ⟨p, cp, rfl⟩ := hv0
    refine (AnyG.slices_Sort_int_none sortInts p cp C.w).mono ?_
    rintro e w' ⟨rfl, rfl⟩
    exact ⟨_, C, rfl, rfl, by
      have : sortI [] = [] := by simp [sortI]
      rw [this]; exact Step.refl hm⟩
  · cases hi : C.ι 1000 with
    | none => rw [hi] at e6; exact absurd (List.length_eq_zero_iff.1 e6.2.2) hr0
    | some b =>
      rw [hi] at e6
      have hbx' : RowAt C b false true 1 (r.map intV1) := by rw [hi] at hbx; exact hbx
      obtain ⟨cp, arr, T, fz, e7, e8, e9, e10⟩ := e6
      have hv0 : v0 = .slice (some ⟨b, 0, none⟩) r.length cp := by rw [e7, Nat.zero_mul]
      subst hv0
      have hbs : b < C.w.heap.size := (Array.getElem?_eq_some_iff.1 e8).1
      have hH : Go.Sort.Holds (Value.int .i64) C.w b 0 r.toArray := fun t ht => by
        obtain ⟨a, x, h1, h2, h3, h4⟩ := row_holds hbx' (by decide) intV1_int (t := t) (by simpa using ht)
        refine ⟨?_, by rw [Nat.zero_add]; exact h4⟩
        rw [Nat.zero_add, h3]
        rw [Nat.div_one] at h1
        rw [Nat.mod_one] at h2
        simp only [intV1, List.getElem?_cons_zero, Option.some.injEq] at h2
        subst h2
        have : r.toArray[t]! = a := by
          rw [getElem!_pos r.toArray t ht]
          rw [List.getElem?_eq_getElem (by simpa using ht)] at h1
          simpa using h1
        rw [this]; rfl
      refine (AnyG.slices_Sort_int sortInts b 0 cp r C.w hH hbs (by omega)).mono ?_
      rintro e w' ⟨rfl, n, os, rfl⟩
      have hlen : (sortI r).length = r.length := List.length_mergeSort r
      have hs := step_map (n := n) (us' := sortI r) hm hg hi hlen intV1_int (putCells (Value.int .i64) 0 (sortI r).toArray) (fun arr => by simp [putCells]) (fun arr i j a d h1 h2 h3 => by
        have hj : j = 0 := by
          have := (List.getElem?_eq_some_iff.1 h3).1
          simp [intV1] at this; exact this
        subst hj
        simp only [intV1, List.getElem?_cons_zero, Option.some.injEq] at h3
        subst h3
        have hi' : i < (sortI r).length := (List.getElem?_eq_some_iff.1 h2).1
        rw [Nat.mul_one, Nat.add_zero, putCells_atI _ _ _ (by simpa using hi') (by simp [hlen]; omega)]
        have : (sortI r).toArray[i]! = a := by
          rw [getElem!_pos _ i (by simpa using hi')]
          rw [List.getElem?_eq_getElem hi'] at h2
          simpa using h2
        rw [this]; rfl)
      obtain ⟨C', e, hs'⟩ := step_grow (m := (1000, .row 0 false true 1 ((sortI r).map intV1)) :: [(1000, .row 0 false true 1 (r.map intV1))]) os hs.holds
      have hs2 := hs.trans hs'
      refine ⟨_, C', rfl, e, ?_⟩
      exact ⟨Ext_congr (fun _ => rfl) (fun g => by by_cases h : 1000 = g <;> simp [Mem.at, look_cons, h]) hs2.ext, HoldsM_congr (fun g => by by_cases h : 1000 = g <;> simp [Mem.at, look_cons, h]) hs2.holds, fun d v h => RdD_congr (fun g => by by_cases h : 1000 = g <;> simp [Mem.at, look_cons, h]) d v (hs2.slot d v h)⟩
end Go.Proofs.Ytfmaehhloffabaa
