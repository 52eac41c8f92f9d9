/- Contracts: plan.Ports, plan.Roles; ContainsFunc at ends; Clone of vectors. -/
import Derived.Shelf.SlSortCmp.NoneTotal
import Derived.Shelf.SortG.Plain
import Derived.Shelf.SortG.SortNone
import Derived.Test.YtpgcemabkjmliaaGreatzbSrt
import Derived.Test.YtpgcemabkjmliaaGreatzcPlP
namespace Go.Proofs.YtpgcemabkjmliaaGreat
open Go.RowKit Go.Sort Go.Shelf Go.Lib
theorem putCells_at (F arr : Array Value) (t : Nat) (h : t < F.size) (ha : F.size ≤ arr.size) : (putCells id 0 F arr)[t]? = some F[t]! := by
  unfold putCells
  rw [Array.getElem?_mapIdx, Array.getElem?_eq_getElem (by omega)]
  simp [h]
theorem putCells_size (F arr : Array Value) : (putCells id 0 F arr).size = arr.size := by simp [putCells]
theorem sortK_step {α β : Type} [Inhabited β] {f : α → List V} {g : β → α} {C : Cf} {m : Mem} {k b ver sz n : Nat} {nw : Bool} {us : List α} {d' : Array β} [hf : CellsI f sz] (hm : HoldsM C m) (hg : m.at k = .row ver false nw sz (us.map f)) (hi : C.ι k = some b) (hl : d'.size = us.length)
    (hint : ∀ a, ∀ d ∈ f a, ∃ k x, d = .int k x) (enc : β → List Value) (he : ∀ x, enc x = (f (g x)).map V.val) (os : Array Obj) :
    ∃ C', C'.w = sortWorldK enc sz C.w b 0 n d' os ∧ Step C m C' ((k, .row ver false nw sz ((d'.toList.map g).map f)) :: m) := by
  have hs := step_map (n := n) (us' := d'.toList.map g) hm hg hi (by simp [hl]) hint (putCells id 0 (flatK enc sz d')) (fun arr => putCells_size _ _) (fun arr i j a d h1 h2 h3 => by
    rw [List.getElem?_map, Option.map_eq_some_iff] at h2
    obtain ⟨x, hx, rfl⟩ := h2
    rw [Array.getElem?_toList] at hx
    have hid : i < d'.size := (Array.getElem?_eq_some_iff.1 hx).1
    have hj : j < sz := by
      have := (List.getElem?_eq_some_iff.1 h3).1
      rwa [hf.len] at this
    have hb : i * sz + j < d'.size * sz := by
      have := Nat.mul_le_mul_right sz (show i + 1 ≤ d'.size from hid)
      rw [Nat.add_mul, Nat.one_mul] at this; omega
    have e1 : (i * sz + j) / sz = i := (blk_iff sz i _ (by omega)).1 ⟨by omega, by omega⟩
    have e2 : (i * sz + j) % sz = j := by rw [Nat.mod_eq_sub_div_mul, e1]; omega
    rw [putCells_at _ _ _ (by rw [size_flatK]; exact hb) (by rw [size_flatK, hl]; exact h1), get_flatK _ _ _ _ hb, e1, e2]
    have hx' : d'[i]! = x := by rw [getElem!_pos d' i hid]; exact (Array.getElem?_eq_some_iff.1 hx).2
    rw [hx', he, List.getElem!_eq_getElem?_getD, List.getElem?_map, h3]; rfl)
  obtain ⟨C', e, hs'⟩ := step_grow (m := (k, .row ver false nw sz ((d'.toList.map g).map f)) :: m) os hs.holds
  exact ⟨C', e, hs.trans hs'⟩
theorem row_holdsK {α β : Type} [Inhabited β] {f : α → List V} {g : β → α} {C : Cf} {b sz : Nat} {nw : Bool} {us : List α} {d : Array β} (hr : RowAt C b false nw sz (us.map f)) (hsz : 0 < sz) [hf : CellsI f sz] (hint : ∀ a, ∀ d ∈ f a, ∃ k x, d = .int k x) (hd : d.toList.map g = us)
    (enc : β → List Value) (he : ∀ x, enc x = (f (g x)).map V.val) : HoldsK enc sz C.w b 0 d := by
  have hl : d.size = us.length := by rw [← hd]; simp
  intro t ht
  rw [size_flatK] at ht
  obtain ⟨a, x, h1, h2, h3, h4⟩ := row_holds hr hsz hint (t := t) (by rw [← hl]; exact ht)
  refine ⟨?_, by rw [Nat.zero_add]; exact h4⟩
  rw [Nat.zero_add, h3]
  show _ = some ((flatK enc sz d)[t]!)
  rw [get_flatK _ _ _ _ ht, he]
  have hi : t / sz < d.size := Nat.div_lt_of_lt_mul (by rw [Nat.mul_comm]; exact ht)
  have : g d[t / sz]! = a := by
    rw [← hd, List.getElem?_map, Array.getElem?_toList, Array.getElem?_eq_getElem hi] at h1
    rw [getElem!_pos d _ hi]; simpa using h1
  rw [this, List.getElem!_eq_getElem?_getD, List.getElem?_map, h2]; rfl
def encE (e : End) : List Value := [.int .i64 e.port, .int .i64 e.cost, .int .i64 e.other, .int .i64 e.oport]
theorem endV_int (a : End) : ∀ d ∈ endV a, ∃ k x, d = .int k x := fun d h => by
  simp only [endV, List.mem_cons, List.mem_nil_iff, or_false] at h
  rcases h with rfl | rfl | rfl | rfl <;> exact ⟨_, _, rfl⟩
theorem intV1_int (a : Int) : ∀ d ∈ intV1 a, ∃ k x, d = .int k x := fun d h => by
  simp only [intV1, List.mem_cons, List.mem_nil_iff, or_false] at h
  subst h; exact ⟨_, _, rfl⟩
abbrev EndIn (r : List End) := { e : End // (1 ≤ e.port ∧ e.port ≤ 30) ∧ e ∈ r }
set_option maxHeartbeats 1000000 in
theorem ends_cmp (x y : End) (hx : 1 ≤ x.port ∧ x.port ≤ 30) (hy : 1 ≤ y.port ∧ y.port ≤ 30) (W : World) : Calls Tryz.prog 57 #[.agg (encE x).toArray, .agg (encE y).toArray] W fun e w' => e = .returned (.int .i64 (x.port - y.port)) ∧ ∃ q os', w' = grow (W.drewN q) os' := by
  have hw : IntKind.i64.wrap (x.port - y.port) = x.port - y.port := wrap_in (by simp only [InK]; omega)
  unfold encE
  go_enter Tryz.func57, Tryz.ntmps57
  go_wp2
  go_ret
  exact ⟨rfl, 0, _, by rw [alloc_eq_grow, alloc_eq_grow, grow_grow]; rfl⟩
theorem ends_swo (r : List End) : SWO (ltOf fun x y : EndIn r => x.1.port - y.1.port) where
  irrefl x := by simp [ltOf]
  trans x y z h1 h2 := by simp [ltOf] at *; omega
  ntrans x y z h1 h2 := by simp [ltOf] at *; omega
theorem ends_eg : ∀ args w, (callFunc 57 args).run Tryz.prog w = .ok (.enter 57 args) w := enters_of Tryz.func57 (by kernel_rfl) rfl
theorem ends_SortFunc (r : List End) (hp : ∀ e ∈ r, 1 ≤ e.port ∧ e.port ≤ 30) (hn : r.length ≤ 1000) (hd : ∀ x ∈ r, ∀ y ∈ r, x.port = y.port → x = y) :
    FnI Tryz.prog 56 [.own 1000 0 0 r.length, .dat false (.fn 57 [])] [(1000, .row 0 false true 4 (r.map endV))] [(1000, .row 0 false true 4 ((sortE r).map endV))] := by
  refine ⟨⟨_, Tryz.func56, rfl, rfl⟩, ?_⟩
  intro C vs hm hvl hv
  match vs, hvl with
  | ⟨[v0, v1]⟩, _ =>
  have h0 := hv 0 _ v0 rfl rfl
  have h1 := hv 1 _ v1 rfl rfl
  have e1 : v1 = .func (.func 57) #[] #[] := by
    generalize he : v1 = u at h1
    cases h1 with
    | fn f cap vs hl hr => 
      have : vs = #[] := Array.eq_empty_of_size_eq_zero (by simpa using hl)
      subst this; rfl
  subst e1
  have hg : Mem.at [(1000, Box.row 0 false true 4 (r.map endV))] 1000 = .row 0 false true 4 (r.map endV) := rfl
  obtain ⟨ver, frz, nw, sz, xs, e1, e2, ⟨a, l, c, e3⟩, e4⟩ := h0
  rw [hg] at e1
  injection e1 with z1 z2 z3 z4 z5
  subst z1 z2 z3 z4 z5
  obtain ⟨e5, e6⟩ := e4 rfl
  have hbx := hm.box 1000
  rw [hg] at hbx
  unfold OwnV at e6
  by_cases hr0 : r = []
  · subst hr0
    have hv0 : ∃ p cp, v0 = .slice p 0 cp := by
      cases hi : C.ι 1000 with
      | none => rw [hi] at e6; exact ⟨_, _, e6.1⟩
      | some b => rw [hi] at e6; obtain ⟨cp, _, _, _, e7, _⟩ := e6; exact ⟨_, _, e7⟩
    obtain ⟨p, cp, rfl⟩ := hv0
    refine (AnyF.slices_SortFunc_none sortEnds p cp _ C.w).mono ?_
    rintro e w' ⟨rfl, rfl⟩
    exact ⟨_, C, rfl, rfl, by
      have : sortE [] = [] := by simp [sortE]
      rw [this]; exact Step.refl hm⟩
  · cases hi : C.ι 1000 with
    | none => rw [hi] at e6; exact absurd (List.length_eq_zero_iff.1 e6.2.2) hr0
    | some b =>
      rw [hi] at e6
      have hbx' : RowAt C b false true 4 (r.map endV) := by rw [hi] at hbx; exact hbx
      obtain ⟨cp, arr, T, fz, e7, e8, e9, e10⟩ := e6
      have hv0 : v0 = .slice (some ⟨b, 0, none⟩) r.length cp := by rw [e7, Nat.zero_mul]
      subst hv0
      obtain ⟨e0, he0⟩ := List.exists_mem_of_ne_nil r hr0
      letI : Inhabited (EndIn r) := ⟨⟨e0, hp e0 he0, he0⟩⟩
      let d : Array (EndIn r) := (r.pmap (fun e (h : (1 ≤ e.port ∧ e.port ≤ 30) ∧ e ∈ r) => ⟨e, h⟩) (fun e he => ⟨hp e he, he⟩)).toArray
      have hdl : d.toList.map (fun x => x.1) = r := by
        show (List.pmap _ r _).map _ = r
        rw [List.map_pmap, List.pmap_eq_map, List.map_id']
      have hds : d.size = r.length := by simp [d]
      have hbs : b < C.w.heap.size := (Array.getElem?_eq_some_iff.1 e8).1
      have hcon := AnyQ.slices_SortFunc_total sortEnds 4 Tryz.isAgg116 Tryz.sizeOf116 (fun x : EndIn r => encE x.1) (fun _ => rfl) (fun x v hv => by simp [encE] at hv; rcases hv with rfl | rfl | rfl | rfl <;> rfl) (fun x y => x.1.port - y.1.port) (ends_swo r)
        57 #[] b 0 cp d C.w ends_eg (fun _ _ _ _ x y => ends_cmp x.1 y.1 x.2.1 y.2.1 _) (row_holdsK (g := fun x : EndIn r => x.1) hbx' (by decide) endV_int hdl _ (fun _ => rfl)) hbs (by omega) (fun x y h1 h2 => Subtype.ext (hd x.1 x.2.2 y.1 y.2.2 (by simp [ltOf] at h1 h2; omega)))
      rw [hds] at hcon
      refine hcon.mono ?_
      rintro e w' ⟨rfl, n, os, rfl⟩
      obtain ⟨C', hC, hs⟩ := sortK_step (g := fun x : EndIn r => x.1) (n := n) (d' := (d.toList.mergeSort fun x y => !(ltOf fun x y : EndIn r => x.1.port - y.1.port) y x).toArray) hm hg hi (by simp [hds]) endV_int (fun x => encE x.1) (fun _ => rfl) os
      refine ⟨_, C', rfl, hC, ?_⟩
      have hsort : ((d.toList.mergeSort fun x y => !(ltOf fun x y : EndIn r => x.1.port - y.1.port) y x).toArray.toList.map fun x => x.1) = sortE r := by
        rw [List.toList_toArray, List.map_mergeSort (s := fun x y : End => decide (x.port ≤ y.port)) (fun x _ y _ => by simp [ltOf]; by_cases h : x.1.port ≤ y.1.port <;> simp [h] <;> omega), hdl]
        rfl
      rw [hsort] at hs
      exact ⟨Ext_congr (fun _ => rfl) (fun g => by show Mem.at _ g = Mem.at _ g; by_cases h : 1000 = g <;> simp [Mem.at, look_cons, h]) hs.ext, HoldsM_congr (fun g => by by_cases h : 1000 = g <;> simp [Mem.at, look_cons, h]) hs.holds, fun d v h => RdD_congr (fun g => by by_cases h : 1000 = g <;> simp [Mem.at, look_cons, h]) d v (hs.slot d v h)⟩
theorem putCells_atI (F : Array Int) (arr : Array Value) (t : Nat) (h : t < F.size) (ha : F.size ≤ arr.size) : (putCells (Value.int .i64) 0 F arr)[t]? = some (.int .i64 F[t]!) := by
  unfold putCells
  rw [Array.getElem?_mapIdx, Array.getElem?_eq_getElem (by omega)]
  simp [h]
theorem ints_Sort (r : List Int) (hn : r.length ≤ 1000) :
    FnI Tryz.prog 44 [.own 1000 0 0 r.length] [(1000, .row 0 false true 1 (r.map intV1))] [(1000, .row 0 false true 1 ((sortI r).map intV1))] := by
  refine ⟨⟨_, Tryz.func44, rfl, rfl⟩, ?_⟩
  intro C vs hm hvl hv
  match vs, hvl with
  | ⟨[v0]⟩, _ =>
  have h0 := hv 0 _ v0 rfl rfl
  have hg : Mem.at [(1000, Box.row 0 false true 1 (r.map intV1))] 1000 = .row 0 false true 1 (r.map intV1) := rfl
  obtain ⟨ver, frz, nw, sz, xs, e1, e2, ⟨a, l, c, e3⟩, e4⟩ := h0
  rw [hg] at e1
  injection e1 with z1 z2 z3 z4 z5
  subst z1 z2 z3 z4 z5
  obtain ⟨e5, e6⟩ := e4 rfl
  have hbx := hm.box 1000
  rw [hg] at hbx
  unfold OwnV at e6
  by_cases hr0 : r = []
  · subst hr0
    have hv0 : ∃ p cp, v0 = .slice p 0 cp := by
      cases hi : C.ι 1000 with
      | none => rw [hi] at e6; exact ⟨_, _, e6.1⟩
      | some b => rw [hi] at e6; obtain ⟨cp, _, _, _, e7, _⟩ := e6; exact ⟨_, _, e7⟩
    obtain ⟨p, cp, rfl⟩ := hv0
    refine (AnyG.slices_Sort_int_none sortInts p cp C.w).mono ?_
    rintro e w' ⟨rfl, rfl⟩
    exact ⟨_, C, rfl, rfl, by
      have : sortI [] = [] := by simp [sortI]
      rw [this]; exact Step.refl hm⟩
  · cases hi : C.ι 1000 with
    | none => rw [hi] at e6; exact absurd (List.length_eq_zero_iff.1 e6.2.2) hr0
    | some b =>
      rw [hi] at e6
      have hbx' : RowAt C b false true 1 (r.map intV1) := by rw [hi] at hbx; exact hbx
      obtain ⟨cp, arr, T, fz, e7, e8, e9, e10⟩ := e6
      have hv0 : v0 = .slice (some ⟨b, 0, none⟩) r.length cp := by rw [e7, Nat.zero_mul]
      subst hv0
      have hbs : b < C.w.heap.size := (Array.getElem?_eq_some_iff.1 e8).1
      have hH : Go.Sort.Holds (Value.int .i64) C.w b 0 r.toArray := fun t ht => by
        obtain ⟨a, x, h1, h2, h3, h4⟩ := row_holds hbx' (by decide) intV1_int (t := t) (by simpa using ht)
        refine ⟨?_, by rw [Nat.zero_add]; exact h4⟩
        rw [Nat.zero_add, h3]
        rw [Nat.div_one] at h1
        rw [Nat.mod_one] at h2
        simp only [intV1, List.getElem?_cons_zero, Option.some.injEq] at h2
        subst h2
        have : r.toArray[t]! = a := by
          rw [getElem!_pos r.toArray t ht]
          rw [List.getElem?_eq_getElem (by simpa using ht)] at h1
          simpa using h1
        rw [this]; rfl
      refine (AnyG.slices_Sort_int sortInts b 0 cp r C.w hH hbs (by omega)).mono ?_
      rintro e w' ⟨rfl, n, os, rfl⟩
      have hlen : (sortI r).length = r.length := List.length_mergeSort r
      have hs := step_map (n := n) (us' := sortI r) hm hg hi hlen intV1_int (putCells (Value.int .i64) 0 (sortI r).toArray) (fun arr => by simp [putCells]) (fun arr i j a d h1 h2 h3 => by
        have hj : j = 0 := by
          have := (List.getElem?_eq_some_iff.1 h3).1
          simp [intV1] at this; exact this
        subst hj
        simp only [intV1, List.getElem?_cons_zero, Option.some.injEq] at h3
        subst h3
        have hi' : i < (sortI r).length := (List.getElem?_eq_some_iff.1 h2).1
        rw [Nat.mul_one, Nat.add_zero, putCells_atI _ _ _ (by simpa using hi') (by simp [hlen]; omega)]
        have : (sortI r).toArray[i]! = a := by
          rw [getElem!_pos _ i (by simpa using hi')]
          rw [List.getElem?_eq_getElem hi'] at h2
          simpa using h2
        rw [this]; rfl)
      obtain ⟨C', e, hs'⟩ := step_grow (m := (1000, .row 0 false true 1 ((sortI r).map intV1)) :: [(1000, .row 0 false true 1 (r.map intV1))]) os hs.holds
      have hs2 := hs.trans hs'
      refine ⟨_, C', rfl, e, ?_⟩
      exact ⟨Ext_congr (fun _ => rfl) (fun g => by by_cases h : 1000 = g <;> simp [Mem.at, look_cons, h]) hs2.ext, HoldsM_congr (fun g => by by_cases h : 1000 = g <;> simp [Mem.at, look_cons, h]) hs2.holds, fun d v h => RdD_congr (fun g => by by_cases h : 1000 = g <;> simp [Mem.at, look_cons, h]) d v (hs2.slot d v h)⟩
end Go.Proofs.YtpgcemabkjmliaaGreat
namespace Go.Proofs.YtpgcemabkjmliaaGreat
open Go.RowKit
attribute [local irreducible] SStep DW DWin DOps thenQ inBlk loopQ retQ retQG FnF FnG FnI Wk IntKind.wrap IntKind.andI IntKind.orI IntKind.xorI IntKind.andNotI IntKind.shlI IntKind.shrI Region.wrong Bridge.wrong Link.wrong Bridge.prio identR sortE sortI rawE rawP famX ctrD famM idsR srtX liveB roleOf
set_option maxHeartbeats 2000000 in
theorem plan_Ports (n : Net) (hn : n.links.length ≤ 40) (i : Int) : FnF Tryz.prog 22 [.rp n.cells, .int .i64 i] (.slice ((portsOf n.links i).map intV1)) := by
  refine fnF_of Tryz.func22 rfl rfl rfl ?_
  simp only [envOf]
  have hml : (n.links.map linkV).length = n.links.length := by simp
  repeat' (first | (apply Wa; constructor) | refine Wb rfl ?_ | refine Wc rfl ?_ | refine Wd (by kernel_rfl) ?_ | refine We rfl ?_ | refine Wf rfl ?_ | refine Wi rfl rfl ?_ | ((first | apply dX rfl | apply Da rfl rfl | apply Db rfl rfl (by intro h; first | trivial | exact ⟨h, trivial⟩ | exact ⟨h, h, trivial⟩)); (focus ((try intro hg); first | exact S_al rfl | exact S_bx rfl rfl | exact S_store rfl rfl rfl rfl rfl rfl | (apply Pu.ok; repeat' (first | rfl | exact .inK (by simp only [InK]; omega) | exact .wr | constructor | decide | omega)))); constructor) | refine Pa rfl rfl rfl rfl rfl ?_ | refine Po rfl rfl rfl rfl rfl ?_ | fail)
  refine DW_loop (fun p : Nat × List Int => ⟨[(1, .dat false (.int .i64 i)), (5, .own 5 0 0 p.2.length), (11, .dat false (.slice (n.links.map linkV))), (12, .dat true (.int .i64 (n.links.map linkV).length)), (13, .dat true (.int .i64 p.1))], [(5, .row 0 false true 1 (p.2.map intV1))], 39⟩)
    (fun p => p.1 ≤ n.links.length ∧ p.2 = rawP (n.links.take p.1) i) (fun p => n.links.length - p.1) (0, []) ⟨Nat.zero_le _, (rawP_nil _ _).symm⟩
    (Wk_g (fun g => if g = 5 then none else some g) rfl rfl (by (repeat' (first | exact trivial | rfl | exact listLe_map _ | exact ⟨_, rfl, .inl rfl⟩ | exact ⟨_, rfl, .inr (.inl rfl)⟩ | exact ⟨_, rfl, .inr (.inr rfl)⟩ | refine ⟨_, _, rfl, rfl, ?_⟩ | exact ⟨_, rfl, rfl⟩ | exact ⟨_, _, _, _, rfl, rfl, rfl⟩ | exact ⟨_, rfl⟩ | exact ⟨_, _, rfl⟩ | apply And.intro)))) (fun p hR => ?_)
  obtain ⟨k, us⟩ := p
  obtain ⟨hk, hus⟩ := hR
  simp only at hk hus
  dsimp only
  have hul : us.length ≤ 2 * k := by rw [hus]; have := rawP_len (n.links.take k) i; simp at this; omega
  by_cases hlt : k < n.links.length
  · have hx : n.links[(k : Int).toNat]? = some n.links[k] := by simp [hlt]
    have hst := rawP_step (i := i) (show n.links[k]? = some n.links[k] by simp [hlt])
    rw [← hus] at hst
    generalize n.links[k] = l at hx hst
    have hpa : portAt i l = (if l.a = i then [l.pa] else []) ++ (if l.b = i then [l.pb] else []) := rfl
    by_cases ha : l.a = i <;> by_cases hb : l.b = i
    · rw [if_pos ha, if_pos hb] at hpa
      repeat' (first | (apply Wa; constructor) | refine Wb rfl ?_ | refine Wc rfl ?_ | refine Wd (by kernel_rfl) ?_ | refine We rfl ?_ | refine Wf rfl ?_ | refine Wg rfl (by omega) ?_ | refine Wh rfl (by omega) ?_ | refine Wi rfl rfl ?_ | ((first | apply dX rfl | apply Da rfl rfl | apply Db rfl rfl (by intro h; first | trivial | exact ⟨h, trivial⟩ | exact ⟨h, h, trivial⟩)); (focus ((try intro hg); first | exact S_ixM rfl rfl (by omega) hx | exact S_appM (f := intV1) (us := us) (bs := [l.pa]) rfl rfl (.dat _ _) rfl rfl (.inr ⟨rfl, inferInstance⟩) rfl (by simp only [List.length_singleton]; omega) | exact S_appM (f := intV1) (us := us ++ [l.pa]) (bs := [l.pb]) rfl rfl (.dat _ _) rfl rfl (.inr ⟨rfl, inferInstance⟩) rfl (by simp only [List.length_singleton, List.length_append]; omega) | exact S_al rfl | exact S_bx rfl rfl | exact S_store rfl rfl rfl rfl rfl rfl | (apply Pu.ok; repeat' (first | rfl | exact .inK (by simp only [InK]; omega) | exact .wr | constructor | decide | omega)))); constructor) | refine Pa rfl rfl rfl rfl rfl ?_ | refine Po rfl rfl rfl rfl rfl ?_ | fail)
      exact loop_again (k + 1, us ++ [l.pa] ++ [l.pb]) ⟨hlt, by rw [hst, hpa]; simp⟩ (by simp only; omega) (Wk_g some rfl rfl (by (repeat' (first | exact trivial | rfl | exact listLe_map _ | exact ⟨_, rfl, .inl rfl⟩ | exact ⟨_, rfl, .inr (.inl rfl)⟩ | exact ⟨_, rfl, .inr (.inr rfl)⟩ | refine ⟨_, _, rfl, rfl, ?_⟩ | exact ⟨_, rfl, rfl⟩ | exact ⟨_, _, _, _, rfl, rfl, rfl⟩ | exact ⟨_, rfl⟩ | exact ⟨_, _, rfl⟩ | apply And.intro))))
    · rw [if_pos ha, if_neg hb] at hpa
      repeat' (first | (apply Wa; constructor) | refine Wb rfl ?_ | refine Wc rfl ?_ | refine Wd (by kernel_rfl) ?_ | refine We rfl ?_ | refine Wf rfl ?_ | refine Wg rfl (by omega) ?_ | refine Wh rfl (by omega) ?_ | refine Wi rfl rfl ?_ | ((first | apply dX rfl | apply Da rfl rfl | apply Db rfl rfl (by intro h; first | trivial | exact ⟨h, trivial⟩ | exact ⟨h, h, trivial⟩)); (focus ((try intro hg); first | exact S_ixM rfl rfl (by omega) hx | exact S_appM (f := intV1) (us := us) (bs := [l.pa]) rfl rfl (.dat _ _) rfl rfl (.inr ⟨rfl, inferInstance⟩) rfl (by simp only [List.length_singleton]; omega) | exact S_al rfl | exact S_bx rfl rfl | exact S_store rfl rfl rfl rfl rfl rfl | (apply Pu.ok; repeat' (first | rfl | exact .inK (by simp only [InK]; omega) | exact .wr | constructor | decide | omega)))); constructor) | refine Pa rfl rfl rfl rfl rfl ?_ | refine Po rfl rfl rfl rfl rfl ?_ | fail)
      exact loop_again (k + 1, us ++ [l.pa]) ⟨hlt, by rw [hst, hpa]; simp⟩ (by simp only; omega) (Wk_g some rfl rfl (by (repeat' (first | exact trivial | rfl | exact listLe_map _ | exact ⟨_, rfl, .inl rfl⟩ | exact ⟨_, rfl, .inr (.inl rfl)⟩ | exact ⟨_, rfl, .inr (.inr rfl)⟩ | refine ⟨_, _, rfl, rfl, ?_⟩ | exact ⟨_, rfl, rfl⟩ | exact ⟨_, _, _, _, rfl, rfl, rfl⟩ | exact ⟨_, rfl⟩ | exact ⟨_, _, rfl⟩ | apply And.intro))))
    · rw [if_neg ha, if_pos hb] at hpa
      repeat' (first | (apply Wa; constructor) | refine Wb rfl ?_ | refine Wc rfl ?_ | refine Wd (by kernel_rfl) ?_ | refine We rfl ?_ | refine Wf rfl ?_ | refine Wg rfl (by omega) ?_ | refine Wh rfl (by omega) ?_ | refine Wi rfl rfl ?_ | ((first | apply dX rfl | apply Da rfl rfl | apply Db rfl rfl (by intro h; first | trivial | exact ⟨h, trivial⟩ | exact ⟨h, h, trivial⟩)); (focus ((try intro hg); first | exact S_ixM rfl rfl (by omega) hx | exact S_appM (f := intV1) (us := us) (bs := [l.pb]) rfl rfl (.dat _ _) rfl rfl (.inr ⟨rfl, inferInstance⟩) rfl (by simp only [List.length_singleton]; omega) | exact S_al rfl | exact S_bx rfl rfl | exact S_store rfl rfl rfl rfl rfl rfl | (apply Pu.ok; repeat' (first | rfl | exact .inK (by simp only [InK]; omega) | exact .wr | constructor | decide | omega)))); constructor) | refine Pa rfl rfl rfl rfl rfl ?_ | refine Po rfl rfl rfl rfl rfl ?_ | fail)
      exact loop_again (k + 1, us ++ [l.pb]) ⟨hlt, by rw [hst, hpa]; simp⟩ (by simp only; omega) (Wk_g some rfl rfl (by (repeat' (first | exact trivial | rfl | exact listLe_map _ | exact ⟨_, rfl, .inl rfl⟩ | exact ⟨_, rfl, .inr (.inl rfl)⟩ | exact ⟨_, rfl, .inr (.inr rfl)⟩ | refine ⟨_, _, rfl, rfl, ?_⟩ | exact ⟨_, rfl, rfl⟩ | exact ⟨_, _, _, _, rfl, rfl, rfl⟩ | exact ⟨_, rfl⟩ | exact ⟨_, _, rfl⟩ | apply And.intro))))
    · rw [if_neg ha, if_neg hb] at hpa
      repeat' (first | (apply Wa; constructor) | refine Wb rfl ?_ | refine Wc rfl ?_ | refine Wd (by kernel_rfl) ?_ | refine We rfl ?_ | refine Wf rfl ?_ | refine Wg rfl (by omega) ?_ | refine Wh rfl (by omega) ?_ | refine Wi rfl rfl ?_ | ((first | apply dX rfl | apply Da rfl rfl | apply Db rfl rfl (by intro h; first | trivial | exact ⟨h, trivial⟩ | exact ⟨h, h, trivial⟩)); (focus ((try intro hg); first | exact S_ixM rfl rfl (by omega) hx | exact S_al rfl | exact S_bx rfl rfl | exact S_store rfl rfl rfl rfl rfl rfl | (apply Pu.ok; repeat' (first | rfl | exact .inK (by simp only [InK]; omega) | exact .wr | constructor | decide | omega)))); constructor) | refine Pa rfl rfl rfl rfl rfl ?_ | refine Po rfl rfl rfl rfl rfl ?_ | fail)
      exact loop_again (k + 1, us) ⟨hlt, by rw [hst, hpa]; simp⟩ (by simp only; omega) (Wk_g some rfl rfl (by (repeat' (first | exact trivial | rfl | exact listLe_map _ | exact ⟨_, rfl, .inl rfl⟩ | exact ⟨_, rfl, .inr (.inl rfl)⟩ | exact ⟨_, rfl, .inr (.inr rfl)⟩ | refine ⟨_, _, rfl, rfl, ?_⟩ | exact ⟨_, rfl, rfl⟩ | exact ⟨_, _, _, _, rfl, rfl, rfl⟩ | exact ⟨_, rfl⟩ | exact ⟨_, _, rfl⟩ | apply And.intro))))
  · have he : us = rawP n.links i := by rw [hus, List.take_of_length_le (by omega)]
    subst he
    have hsl : (sortI (rawP n.links i)).length = (rawP n.links i).length := by with_unfolding_all exact List.length_mergeSort _
    have hso := ints_Sort (rawP n.links i) (by have := rawP_len n.links i; omega)
    rw [portsOf_eq]
    repeat' (first | refine DW_mark 5 (bx := .row 0 false true 1 ((sortI (rawP n.links i)).map intV1)) rfl ?_ | (apply Wa; constructor) | refine Wb rfl ?_ | refine Wc rfl ?_ | refine Wd (by kernel_rfl) ?_ | refine We rfl ?_ | refine Wf rfl ?_ | refine Wg rfl (by omega) ?_ | refine Wh rfl (by omega) ?_ | refine Wi rfl rfl ?_ | ((first | apply dX rfl | apply Da rfl rfl | apply Db rfl rfl (by intro h; first | trivial | exact ⟨h, trivial⟩ | exact ⟨h, h, trivial⟩)); (focus ((try intro hg); first | exact S_callI 5 hso rfl rfl | exact S_al rfl | exact S_bx rfl rfl | exact S_store rfl rfl rfl rfl rfl rfl | (apply Pu.ok; repeat' (first | rfl | exact .inK (by simp only [InK]; omega) | exact .wr | constructor | decide | omega)))); constructor) | refine Pa rfl rfl rfl rfl rfl ?_ | refine Po rfl rfl rfl rfl rfl ?_ | fail)
    intro _
    refine DW_seal 5 rfl rfl (by rw [List.length_map, hsl]) ?_
    repeat' (first | (apply Wa; constructor) | refine Wb rfl ?_ | refine Wc rfl ?_ | refine Wd (by kernel_rfl) ?_ | refine We rfl ?_ | refine Wf rfl ?_ | refine Wi rfl rfl ?_ | ((first | apply dX rfl | apply Da rfl rfl | apply Db rfl rfl (by intro h; first | trivial | exact ⟨h, trivial⟩ | exact ⟨h, h, trivial⟩)); (focus ((try intro hg); first | exact S_al rfl | exact S_bx rfl rfl | exact S_store rfl rfl rfl rfl rfl rfl | (apply Pu.ok; repeat' (first | rfl | exact .inK (by simp only [InK]; omega) | exact .wr | constructor | decide | omega)))); constructor) | refine Pa rfl rfl rfl rfl rfl ?_ | refine Po rfl rfl rfl rfl rfl ?_ | fail)
    refine ret1 rfl (.inl rfl) ?_
    rfl
theorem end_IndexFunc (l : List End) (f : FuncId) (cap : List V) (p : End → Bool) (hf : ∀ b, FnF Tryz.prog f (.agg (endV b) :: cap) (.bool (p b))) : FnF Tryz.prog 121 [.slice (l.map endV), .fn f cap] (.int .i64 (if l.any p then (l.findIdx p : Int) else -1)) := by
  refine fnF_of Tryz.func121 rfl rfl rfl ?_
  simp only [envOf]
  refine DW_len 0 rfl (fun hlen => ?_)
  have hml : (l.map endV).length = l.length := by simp
  repeat' (first | (apply Wa; constructor) | refine Wb rfl ?_ | refine Wc rfl ?_ | refine Wd (by kernel_rfl) ?_ | refine We rfl ?_ | refine Wf rfl ?_ | refine Wi rfl rfl ?_ | ((first | apply dX rfl | apply Da rfl rfl | apply Db rfl rfl (by intro h; first | trivial | exact ⟨h, trivial⟩ | exact ⟨h, h, trivial⟩)); (focus ((try intro hg); first | exact S_al rfl | exact S_bx rfl rfl | exact S_store rfl rfl rfl rfl rfl rfl | (apply Pu.ok; repeat' (first | rfl | exact .inK (by simp only [InK]; omega) | exact .wr | constructor | decide | omega)))); constructor) | refine Pa rfl rfl rfl rfl rfl ?_ | refine Po rfl rfl rfl rfl rfl ?_ | fail)
  refine DW_loop (fun k : Nat => ⟨[(0, .dat false (.slice (l.map endV))), (1, .dat false (.fn f cap)), (7, .dat true (.int .i64 (l.map endV).length)), (8, .dat true (.int .i64 k))], [], 19⟩)
    (fun k => k ≤ l.length ∧ (l.take k).any p = false) (fun k => l.length - k) 0 ⟨Nat.zero_le _, by simp⟩
    (Wk_g some rfl rfl (by (repeat' (first | exact trivial | rfl | exact listLe_map _ | exact ⟨_, rfl, .inl rfl⟩ | exact ⟨_, rfl, .inr (.inl rfl)⟩ | exact ⟨_, rfl, .inr (.inr rfl)⟩ | refine ⟨_, _, rfl, rfl, ?_⟩ | exact ⟨_, rfl, rfl⟩ | exact ⟨_, _, _, _, rfl, rfl, rfl⟩ | exact ⟨_, rfl⟩ | exact ⟨_, _, rfl⟩ | apply And.intro)))) (fun k hR => ?_)
  obtain ⟨hk, ha⟩ := hR
  by_cases hlt : k < l.length
  · have hx : l[(k : Int).toNat]? = some l[k] := by simp [hlt]
    have hx' : l[k]? = some l[k] := by simp [hlt]
    have hfb := hf l[k]
    generalize l[k] = b at hx hx' hfb
    have ht : l.take (k + 1) = l.take k ++ [b] := by rw [List.take_add_one, hx']; rfl
    cases hp : p b with
    | true =>
      rw [hp] at hfb
      repeat' (first | (apply Wa; constructor) | refine Wb rfl ?_ | refine Wc rfl ?_ | refine Wd (by kernel_rfl) ?_ | refine We rfl ?_ | refine Wf rfl ?_ | refine Wg rfl (by omega) ?_ | refine Wh rfl (by omega) ?_ | refine Wi rfl rfl ?_ | ((first | apply dX rfl | apply Da rfl rfl | apply Db rfl rfl (by intro h; first | trivial | exact ⟨h, trivial⟩ | exact ⟨h, h, trivial⟩)); (focus ((try intro hg); first | exact S_ixM rfl rfl (by omega) hx | exact S_callv rfl rfl hfb | exact S_al rfl | exact S_bx rfl rfl | exact S_store rfl rfl rfl rfl rfl rfl | (apply Pu.ok; repeat' (first | rfl | exact .inK (by simp only [InK]; omega) | exact .wr | constructor | decide | omega)))); constructor) | refine Pa rfl rfl rfl rfl rfl ?_ | refine Po rfl rfl rfl rfl rfl ?_ | fail)
      refine ret1 rfl (.inl rfl) ?_
      have hany : l.any p = true := List.any_eq_true.2 ⟨b, List.mem_of_getElem? hx', hp⟩
      rw [if_pos hany]
      have : l.findIdx p = k := by
        rw [List.findIdx_eq hlt]
        refine ⟨?_, fun j hj => ?_⟩
        · have : l[k] = b := (List.getElem?_eq_some_iff.1 hx').2
          rw [this]; exact hp
        · have := List.any_eq_false.1 ha (l[j]) (by rw [List.mem_take_iff_getElem]; exact ⟨j, by omega, rfl⟩)
          simpa using this
      rw [this]
    | false =>
      rw [hp] at hfb
      repeat' (first | (apply Wa; constructor) | refine Wb rfl ?_ | refine Wc rfl ?_ | refine Wd (by kernel_rfl) ?_ | refine We rfl ?_ | refine Wf rfl ?_ | refine Wg rfl (by omega) ?_ | refine Wh rfl (by omega) ?_ | refine Wi rfl rfl ?_ | ((first | apply dX rfl | apply Da rfl rfl | apply Db rfl rfl (by intro h; first | trivial | exact ⟨h, trivial⟩ | exact ⟨h, h, trivial⟩)); (focus ((try intro hg); first | exact S_ixM rfl rfl (by omega) hx | exact S_callv rfl rfl hfb | exact S_al rfl | exact S_bx rfl rfl | exact S_store rfl rfl rfl rfl rfl rfl | (apply Pu.ok; repeat' (first | rfl | exact .inK (by simp only [InK]; omega) | exact .wr | constructor | decide | omega)))); constructor) | refine Pa rfl rfl rfl rfl rfl ?_ | refine Po rfl rfl rfl rfl rfl ?_ | fail)
      exact loop_again (k + 1) ⟨hlt, by rw [ht, List.any_append, ha]; simp [hp]⟩ (by omega) (Wk_g some rfl rfl (by (repeat' (first | exact trivial | rfl | exact listLe_map _ | exact ⟨_, rfl, .inl rfl⟩ | exact ⟨_, rfl, .inr (.inl rfl)⟩ | exact ⟨_, rfl, .inr (.inr rfl)⟩ | refine ⟨_, _, rfl, rfl, ?_⟩ | exact ⟨_, rfl, rfl⟩ | exact ⟨_, _, _, _, rfl, rfl, rfl⟩ | exact ⟨_, rfl⟩ | exact ⟨_, _, rfl⟩ | apply And.intro))))
  · rw [List.take_of_length_le (by omega)] at ha
    repeat' (first | (apply Wa; constructor) | refine Wb rfl ?_ | refine Wc rfl ?_ | refine Wd (by kernel_rfl) ?_ | refine We rfl ?_ | refine Wf rfl ?_ | refine Wg rfl (by omega) ?_ | refine Wh rfl (by omega) ?_ | refine Wi rfl rfl ?_ | ((first | apply dX rfl | apply Da rfl rfl | apply Db rfl rfl (by intro h; first | trivial | exact ⟨h, trivial⟩ | exact ⟨h, h, trivial⟩)); (focus ((try intro hg); first | exact S_al rfl | exact S_bx rfl rfl | exact S_store rfl rfl rfl rfl rfl rfl | (apply Pu.ok; repeat' (first | rfl | exact .inK (by simp only [InK]; omega) | exact .wr | constructor | decide | omega)))); constructor) | refine Pa rfl rfl rfl rfl rfl ?_ | refine Po rfl rfl rfl rfl rfl ?_ | fail)
    refine ret1 rfl (.inl rfl) ?_
    rw [if_neg (by rw [ha]; simp)]
theorem end_ContainsFunc (l : List End) (f : FuncId) (cap : List V) (p : End → Bool) (hf : ∀ b, FnF Tryz.prog f (.agg (endV b) :: cap) (.bool (p b))) : FnF Tryz.prog 102 [.slice (l.map endV), .fn f cap] (.bool (l.any p)) := by
  refine fnF_of Tryz.func102 rfl rfl rfl ?_
  simp only [envOf]
  repeat' (first | (apply Wa; constructor) | refine Wb rfl ?_ | refine Wc rfl ?_ | refine Wd (by kernel_rfl) ?_ | refine We rfl ?_ | refine Wf rfl ?_ | refine Wi rfl rfl ?_ | ((first | apply dX rfl | apply Da rfl rfl | apply Db rfl rfl (by intro h; first | trivial | exact ⟨h, trivial⟩ | exact ⟨h, h, trivial⟩)); (focus ((try intro hg); first | exact S_call (end_IndexFunc l f cap p hf) rfl | exact S_al rfl | exact S_bx rfl rfl | exact S_store rfl rfl rfl rfl rfl rfl | (apply Pu.ok; repeat' (first | rfl | exact .inK (by simp only [InK]; omega) | exact .wr | constructor | decide | omega)))); constructor) | refine Pa rfl rfl rfl rfl rfl ?_ | refine Po rfl rfl rfl rfl rfl ?_ | fail)
  refine ret1 rfl (.inl rfl) ?_
  congr 1
  split
  · rename_i h
    rw [h, decide_eq_true_iff]; omega
  · rename_i h
    rw [Bool.eq_false_iff.2 h, decide_eq_false_iff_not]; omega
theorem roles_fn (p : Int) (e : End) : FnF Tryz.prog 103 [.agg (endV e), .rp [.int .i64 p]] (.bool (decide (e.port = p))) := by
  refine fnF_of Tryz.func103 rfl rfl rfl ?_
  simp only [envOf]
  repeat' (first | (apply Wa; constructor) | refine Wb rfl ?_ | refine Wc rfl ?_ | refine Wd (by kernel_rfl) ?_ | refine We rfl ?_ | refine Wf rfl ?_ | refine Wi rfl rfl ?_ | ((first | apply dX rfl | apply Da rfl rfl | apply Db rfl rfl (by intro h; first | trivial | exact ⟨h, trivial⟩ | exact ⟨h, h, trivial⟩)); (focus ((try intro hg); first | exact S_al rfl | exact S_bx rfl rfl | exact S_store rfl rfl rfl rfl rfl rfl | (apply Pu.ok; repeat' (first | rfl | exact .inK (by simp only [InK]; omega) | exact .wr | constructor | decide | omega)))); constructor) | refine Pa rfl rfl rfl rfl rfl ?_ | refine Po rfl rfl rfl rfl rfl ?_ | fail)
  refine ret1 rfl (.inl rfl) ?_
  rfl
set_option maxHeartbeats 2000000 in
theorem plan_Roles (n : Net) (hn : n.links.length ≤ 40) (i : Int) (ends : List End) (says : Vec) (root : Int) (l : List Offer) :
    FnF Tryz.prog 73 [.rp n.cells, .int .i64 i, .slice (ends.map endV), says.v, .int .i64 root, offers l] (.tuple [.slice ((portsOf n.links i).map intV1), .slice ((rolesP ends says root l (portsOf n.links i)).map intV1)]) := by
  refine fnF_of Tryz.func73 rfl rfl rfl ?_
  simp only [envOf]
  have hpl : (portsOf n.links i).length ≤ 80 := by
    have := rawP_len n.links i
    rw [portsOf_eq]; unfold sortI; rw [List.length_mergeSort]; omega
  have hpo := plan_Ports n hn i
  generalize portsOf n.links i = ps at hpl hpo
  have hml : (ps.map intV1).length = ps.length := by simp
  repeat' (first | (apply Wa; constructor) | refine Wb rfl ?_ | refine Wc rfl ?_ | refine Wd (by kernel_rfl) ?_ | refine We rfl ?_ | refine Wf rfl ?_ | refine Wi rfl rfl ?_ | ((first | apply dX rfl | apply Da rfl rfl | apply Db rfl rfl (by intro h; first | trivial | exact ⟨h, trivial⟩ | exact ⟨h, h, trivial⟩)); (focus ((try intro hg); first | exact S_call hpo rfl | exact S_al rfl | exact S_bx rfl rfl | exact S_store rfl rfl rfl rfl rfl rfl | (apply Pu.ok; repeat' (first | rfl | exact .inK (by simp only [InK]; omega) | exact .wr | constructor | decide | omega)))); constructor) | refine Pa rfl rfl rfl rfl rfl ?_ | refine Po rfl rfl rfl rfl rfl ?_ | fail)
  refine DW_loop (fun p : Nat × List Int => ⟨[(2, .dat false (.slice (ends.map endV))), (4, .dat false (.int .i64 root)), (5, .dat false (offers l)), (9, .ptr 9 0), (12, .dat true (.slice (ps.map intV1))), (13, .own 13 0 0 p.2.length), (20, .dat true (.slice (ps.map intV1))), (21, .dat true (.int .i64 (ps.map intV1).length)), (22, .dat true (.int .i64 p.1))],
      [(9, .cells false true (says.cells.map (.dat false))), (13, .row 0 false true 1 (p.2.map intV1))], 41⟩)
    (fun p => p.1 ≤ ps.length ∧ p.2 = rolesP ends says root l (ps.take p.1)) (fun p => ps.length - p.1) (0, []) ⟨Nat.zero_le _, rfl⟩
    (Wk_g (fun g => if g = 13 then none else some g) rfl rfl (by (repeat' (first | exact trivial | rfl | exact listLe_map _ | exact ⟨_, rfl, .inl rfl⟩ | exact ⟨_, rfl, .inr (.inl rfl)⟩ | exact ⟨_, rfl, .inr (.inr rfl)⟩ | refine ⟨_, _, rfl, rfl, ?_⟩ | exact ⟨_, rfl, rfl⟩ | exact ⟨_, _, _, _, rfl, rfl, rfl⟩ | exact ⟨_, rfl⟩ | exact ⟨_, _, rfl⟩ | apply And.intro)))) (fun p hR => ?_)
  obtain ⟨k, us⟩ := p
  obtain ⟨hk, hus⟩ := hR
  simp only at hk hus
  dsimp only
  have hul : us.length = k := by rw [hus, rolesP_len]; simp; omega
  by_cases hlt : k < ps.length
  · have hx : ps[(k : Int).toNat]? = some ps[k] := by simp [hlt]
    have ht : ps.take (k + 1) = ps.take k ++ [ps[k]] := by rw [List.take_add_one, List.getElem?_eq_getElem hlt]; rfl
    generalize ps[k] = p at hx ht
    have hc := end_ContainsFunc ends 103 [.rp [.int .i64 p]] (fun e => decide (e.port = p)) (fun e => roles_fn p e)
    have hnext : rolesP ends says root l (ps.take (k + 1)) = us ++ [if ends.any (fun e => decide (e.port = p)) then roleOf says root p l else 0] := by
      rw [ht, hus]; unfold rolesP; rw [List.map_append]; rfl
    have hro := vec_Role says root p l
    cases ha : ends.any (fun e => decide (e.port = p)) with
    | true =>
      rw [ha] at hc hnext
      rw [if_pos rfl] at hnext
      repeat' (first | (apply Wa; constructor) | refine Wb rfl ?_ | refine Wc rfl ?_ | refine Wd (by kernel_rfl) ?_ | refine We rfl ?_ | refine Wf rfl ?_ | refine Wg rfl (by omega) ?_ | refine Wh rfl (by omega) ?_ | refine Wi rfl rfl ?_ | ((first | apply dX rfl | apply Da rfl rfl | apply Db rfl rfl (by intro h; first | trivial | exact ⟨h, trivial⟩ | exact ⟨h, h, trivial⟩)); (focus ((try intro hg); first | exact S_ixM rfl rfl (by omega) hx | exact S_frz 15 rfl rfl (S_makeFunc rfl) | exact S_call hc rfl | exact S_call hro rfl | exact S_appM (f := intV1) (us := us) (bs := [roleOf says root p l]) rfl rfl (.dat _ _) rfl rfl (.inr ⟨rfl, inferInstance⟩) rfl (by simp only [List.length_singleton]; omega) | exact S_al rfl | exact S_bx rfl rfl | exact S_store rfl rfl rfl rfl rfl rfl | (apply Pu.ok; repeat' (first | rfl | exact .inK (by simp only [InK]; omega) | exact .wr | constructor | decide | omega)))); constructor) | refine Pa rfl rfl rfl rfl rfl ?_ | refine Po rfl rfl rfl rfl rfl ?_ | fail)
      exact loop_again (k + 1, us ++ [roleOf says root p l]) ⟨hlt, hnext.symm⟩ (by simp only; omega) (Wk_g some rfl rfl (by (repeat' (first | exact trivial | rfl | exact listLe_map _ | exact ⟨_, rfl, .inl rfl⟩ | exact ⟨_, rfl, .inr (.inl rfl)⟩ | exact ⟨_, rfl, .inr (.inr rfl)⟩ | refine ⟨_, _, rfl, rfl, ?_⟩ | exact ⟨_, rfl, rfl⟩ | exact ⟨_, _, _, _, rfl, rfl, rfl⟩ | exact ⟨_, rfl⟩ | exact ⟨_, _, rfl⟩ | apply And.intro))))
    | false =>
      rw [ha] at hc hnext
      rw [if_neg (by simp)] at hnext
      repeat' (first | (apply Wa; constructor) | refine Wb rfl ?_ | refine Wc rfl ?_ | refine Wd (by kernel_rfl) ?_ | refine We rfl ?_ | refine Wf rfl ?_ | refine Wg rfl (by omega) ?_ | refine Wh rfl (by omega) ?_ | refine Wi rfl rfl ?_ | ((first | apply dX rfl | apply Da rfl rfl | apply Db rfl rfl (by intro h; first | trivial | exact ⟨h, trivial⟩ | exact ⟨h, h, trivial⟩)); (focus ((try intro hg); first | exact S_ixM rfl rfl (by omega) hx | exact S_frz 15 rfl rfl (S_makeFunc rfl) | exact S_call hc rfl | exact S_appM (f := intV1) (us := us) (bs := [0]) rfl rfl (.dat _ _) rfl rfl (.inr ⟨rfl, inferInstance⟩) rfl (by simp only [List.length_singleton]; omega) | exact S_al rfl | exact S_bx rfl rfl | exact S_store rfl rfl rfl rfl rfl rfl | (apply Pu.ok; repeat' (first | rfl | exact .inK (by simp only [InK]; omega) | exact .wr | constructor | decide | omega)))); constructor) | refine Pa rfl rfl rfl rfl rfl ?_ | refine Po rfl rfl rfl rfl rfl ?_ | fail)
      exact loop_again (k + 1, us ++ [0]) ⟨hlt, hnext.symm⟩ (by simp only; omega) (Wk_g some rfl rfl (by (repeat' (first | exact trivial | rfl | exact listLe_map _ | exact ⟨_, rfl, .inl rfl⟩ | exact ⟨_, rfl, .inr (.inl rfl)⟩ | exact ⟨_, rfl, .inr (.inr rfl)⟩ | refine ⟨_, _, rfl, rfl, ?_⟩ | exact ⟨_, rfl, rfl⟩ | exact ⟨_, _, _, _, rfl, rfl, rfl⟩ | exact ⟨_, rfl⟩ | exact ⟨_, _, rfl⟩ | apply And.intro))))
  · have he : us = rolesP ends says root l ps := by rw [hus, List.take_of_length_le (by omega)]
    refine DW_seal 13 rfl rfl (by simp) ?_
    repeat' (first | (apply Wa; constructor) | refine Wb rfl ?_ | refine Wc rfl ?_ | refine Wd (by kernel_rfl) ?_ | refine We rfl ?_ | refine Wf rfl ?_ | refine Wg rfl (by omega) ?_ | refine Wh rfl (by omega) ?_ | refine Wi rfl rfl ?_ | ((first | apply dX rfl | apply Da rfl rfl | apply Db rfl rfl (by intro h; first | trivial | exact ⟨h, trivial⟩ | exact ⟨h, h, trivial⟩)); (focus ((try intro hg); first | exact S_al rfl | exact S_bx rfl rfl | exact S_store rfl rfl rfl rfl rfl rfl | (apply Pu.ok; repeat' (first | rfl | exact .inK (by simp only [InK]; omega) | exact .wr | constructor | decide | omega)))); constructor) | refine Pa rfl rfl rfl rfl rfl ?_ | refine Po rfl rfl rfl rfl rfl ?_ | fail)
    refine ret2 rfl (.inl rfl) rfl (.inl rfl) ?_
    rw [← he]
end Go.Proofs.YtpgcemabkjmliaaGreat
