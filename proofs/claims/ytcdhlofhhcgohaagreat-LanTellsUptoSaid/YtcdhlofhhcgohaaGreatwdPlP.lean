/- Contracts: plan.Ports, plan.Roles; ContainsFunc at ends; Clone of vectors. -/
import Derived.Sort.Grow
import Derived.Test.YtcdhlofhhcgohaaGreatwbNst
import Derived.Shelf.SlSortCmp.NoneTotal
import Derived.Shelf.SortG.Plain
import Derived.Shelf.SortG.SortNone
import Derived.Test.YtcdhlofhhcgohaaGreatwcPlO
import Derived.Test.YtcdhlofhhcgohaaGreatwcSh
namespace Go.Proofs.YtcdhlofhhcgohaaGreat
open Go.RowKit Go.Sort
theorem zmN (w:World) (n b:Nat) (φ:Array Value→Array Value) (k:Nat):(mapBlock (Sort.ahead w n) b φ).heap[k]? = if b=k then(w.heap[k]?).map (onCells φ)else w.heap[k]? := by
 show(w.heap.modify b (onCells φ))[k]? = _
 rw[Array.getElem?_modify]
theorem zmO {α:Type} {f:α→List V} {C:Cf} {m:Mem} {g b ver sz n:Nat} {nw:Bool} {us us':List α} [hf:CellsI f sz] (hm:HoldsM C m) (hg:m.at g = .row ver false nw sz (us.map f)) (hi:C.ι g=some b) (hl:us'.length=us.length)
  (hint:∀ a,∀ d∈f a,∃ k x,d = .int k x) (φ:Array Value→Array Value) (hs:∀ arr,(φ arr).size=arr.size)
  (hφ:∀ (arr:Array Value) (i j:Nat) (a:α) (d:V),us.length*sz≤arr.size→us'[i]? = some a→(f a)[j]? = some d→(φ arr)[i*sz+j]? = some d.val) :
  Step C m { C with w:=mapBlock (Sort.ahead C.w n) b φ } ((g,.row ver false nw sz (us'.map f))::m):=by
 have hb:=hm.box g
 rw[hg]at hb
 have hb':ziF C b false nw sz (us.map f):=by rw[hi]at hb;exact hb
 obtain⟨arr,T,fz,h1,h2,h3,h4,h5,h6,h7⟩:=hb'
 have hnew:(mapBlock (Sort.ahead C.w n) b φ).heap[b]? = some (.cells (φ arr) T fz):=by rw[zmN,if_pos rfl,h1];rfl
 refine Step.write hm (by rw[hg];rfl) hi rfl rfl rfl (by show(C.w.heap.modify b _).size=_;simp) (fun k hk=>by rw[zmN,if_neg (Ne.symm hk)]) ?_ ?_ ?_ ?_ (fun hd hslot=>?_)
 ·rintro v0 lo len v ⟨ver',frz,nw',sz',xs,e1,e2,e3,e4⟩
  rw[hg]at e1
  injection e1 with z1 z2 z3 z4 z5
  subst z1 z2 z3 z4 z5
  refine⟨ver,false,nw,sz,us'.map f,Mem.at_cons_same _ _ _,e2,e3,fun hv=>?_⟩
  obtain⟨q1,q2⟩:=e4 hv
  refine⟨by simpa[hl]using q1,?_⟩
  unfold OwnV at *
  show(match C.ι g with|none=>_|some b=>_)
  rw[hi]at q2 ⊢
  obtain⟨cap,arr1,T1,fz1,y1,y2,y3,y4⟩:=q2
  rw[h1]at y2
  injection y2 with y2
  injection y2 with y5 y6 y7
  subst y5 y6 y7
  exact⟨cap,φ arr,T,fz,y1,hnew,by rw[hs];exact y3,y4⟩
 ·rintro off v ⟨_,_,_,_,h,_⟩;rw[hg]at h;cases h
 ·rintro v0 i off v ⟨ver',frz,nw',sz',xs,e1,e2,e3,e4⟩
  rw[hg]at e1
  injection e1 with z1 z2 z3 z4 z5
  subst z1 z2 z3 z4 z5
  refine⟨ver,false,nw,sz,us'.map f,Mem.at_cons_same _ _ _,e2,e3,fun hv=>?_⟩
  obtain⟨q1,q2⟩:=e4 hv
  exact⟨by simpa[hl]using q1,q2⟩
 ·rintro v ⟨_,_,_,_,h,_⟩;rw[hg]at h;cases h
 ·refine⟨φ arr,T,fz,hnew,⟨fun i hi=>h2.1 i (by rwa[hs]at hi),h2.2⟩,by rw[hs];simpa[hl]using h3,fun i e he=>?_,fun i j e d he hd=>?_,fun i j e d c he hd hc=>?_,fun h=>by cases h⟩
  ·rw[List.getElem?_map]at he
   obtain⟨a,_,rfl⟩:=Option.map_eq_some_iff.1 he
   exact hf.len a
  ·rw[List.getElem?_map]at he
   obtain⟨a,_,rfl⟩:=Option.map_eq_some_iff.1 he
   exact hf.one a d (List.mem_of_getElem? hd)
  ·rw[List.getElem?_map]at he
   obtain⟨a,ha,rfl⟩:=Option.map_eq_some_iff.1 he
   have:=hφ arr i j a d (by simpa using h3) ha hd
   rw[this]at hc
   injection hc with hc
   subst hc
   obtain⟨k,x,rfl⟩:=hint a d (List.mem_of_getElem? hd)
   exact Rd.int k x
theorem zkM {C:Cf} {m:Mem} (os:Array Obj) (hm:HoldsM C m):∃ C',C'.w=grow C.w os∧Step C m C' m:=by
 have hw:Grew C.w (grow C.w os):=⟨rfl,rfl,rfl,by show _≤(C.w.heap++os).size;simp,fun b hb=>by
  show(C.w.heap++os)[b]? = _
  rw[Array.getElem?_append_left hb]⟩
 exact⟨_,rfl,zc9 (w:=grow C.w os) (fun _=>False) hm hw (fun _ h=>h.elim)⟩
theorem row_holds {α:Type} {f:α→List V} {C:Cf} {b sz:Nat} {nw:Bool} {us:List α} (hr:ziF C b false nw sz (us.map f)) (hsz:0<sz) [hf:CellsI f sz] (hint:∀ a,∀ d∈f a,∃ k x,d = .int k x) {t:Nat} (ht:t<us.length*sz) :
  ∃ a d,us[t / sz]? = some a∧(f a)[t % sz]? = some d∧C.w.cell? ⟨b,t,none⟩=some d.val∧C.w.frozen? ⟨b,t,none⟩=false:=by
 obtain⟨arr,T,fz,h1,h2,h3,h4,h5,h6,h7⟩:=hr
 have hi:t / sz<us.length:=Nat.div_lt_of_lt_mul (by rw[Nat.mul_comm];exact ht)
 have hj:t % sz<sz:=Nat.mod_lt _ hsz
 have hta:t<arr.size:=by simp only[List.length_map]at h3;omega
 have ha:us[t / sz]? = some us[t / sz]:=List.getElem?_eq_getElem hi
 generalize us[t / sz]=a at ha
 have hd:(f a)[t % sz]? = some ((f a)[t % sz]'(by rw[hf.len];exact hj)):=List.getElem?_eq_getElem _
 generalize (f a)[t % sz]'(by rw[hf.len];exact hj)=d at hd
 have he:t / sz*sz+t % sz=t:=by rw[Nat.mul_comm];exact Nat.div_add_mod t sz
 refine⟨a,d,ha,hd,?_,?_⟩
 ·have hc:arr[t]? = some arr[t]:=Array.getElem?_eq_getElem hta
  have hr:=h6 (t / sz) (t % sz) (f a) d arr[t] (by rw[List.getElem?_map,ha];rfl) hd (by rw[he];exact hc)
  obtain⟨k,x,rfl⟩:=hint a d (List.mem_of_getElem? hd)
  have:=zka hr
  rw[zaz h1,hc,this];rfl
 ·unfold World.frozen?
  rw[h1]
  have:=h2.1 t hta
  simp only
  rw[Bool.eq_false_iff]
  intro h
  simp only[Bool.and_eq_true,decide_eq_true_eq]at h
  exact this h
end Go.Proofs.YtcdhlofhhcgohaaGreat
namespace Go.Proofs.YtcdhlofhhcgohaaGreat
open Go.RowKit Go.Sort Go.Shelf Go.Lib
theorem zlQ (F arr:Array Value) (t:Nat) (h:t<F.size) (ha:F.size≤arr.size):(putCells id 0 F arr)[t]? = some F[t]! := by
 unfold putCells
 rw[Array.getElem?_mapIdx,Array.getElem?_eq_getElem (by omega)]
 simp[h]
theorem zjm (F arr:Array Value):(putCells id 0 F arr).size=arr.size:=by simp[putCells]
theorem znG {α β:Type} [Inhabited β] {f:α→List V} {g:β→α} {C:Cf} {m:Mem} {k b ver sz n:Nat} {nw:Bool} {us:List α} {d':Array β} [hf:CellsI f sz] (hm:HoldsM C m) (hg:m.at k = .row ver false nw sz (us.map f)) (hi:C.ι k=some b) (hl:d'.size=us.length)
  (hint:∀ a,∀ d∈f a,∃ k x,d = .int k x) (enc:β→List Value) (he:∀ x,enc x=(f (g x)).map V.val) (os:Array Obj) :
  ∃ C',C'.w=sortWorldK enc sz C.w b 0 n d' os∧Step C m C' ((k,.row ver false nw sz ((d'.toList.map g).map f))::m):=by
 have hs:=zmO (n:=n) (us':=d'.toList.map g) hm hg hi (by simp[hl]) hint (putCells id 0 (flatK enc sz d')) (fun arr=>zjm _ _) (fun arr i j a d h1 h2 h3=>by
  rw[List.getElem?_map,Option.map_eq_some_iff]at h2
  obtain⟨x,hx,rfl⟩:=h2
  rw[Array.getElem?_toList]at hx
  have hid:i<d'.size:=(Array.getElem?_eq_some_iff.1 hx).1
  have hj:j<sz:=by
   have:=(List.getElem?_eq_some_iff.1 h3).1
   rwa[hf.len]at this
  have hb:i*sz+j<d'.size*sz:=by
   have:=Nat.mul_le_mul_right sz (show i+1≤d'.size from hid)
   rw[Nat.add_mul,Nat.one_mul]at this;omega
  have e1:(i*sz+j) / sz=i:=(blk_iff sz i _ (by omega)).1 ⟨by omega,by omega⟩
  have e2:(i*sz+j) % sz=j:=by rw[Nat.mod_eq_sub_div_mul,e1];omega
  rw[zlQ _ _ _ (by rw[size_flatK];exact hb) (by rw[size_flatK,hl];exact h1),get_flatK _ _ _ _ hb,e1,e2]
  have hx':d'[i]! = x:=by rw[getElem!_pos d' i hid];exact(Array.getElem?_eq_some_iff.1 hx).2
  rw[hx',he,List.getElem!_eq_getElem?_getD,List.getElem?_map,h3];rfl)
 obtain⟨C',e,hs'⟩:=zkM (m:=(k,.row ver false nw sz ((d'.toList.map g).map f))::m) os hs.holds
 exact⟨C',e,hs.trans hs'⟩
theorem znH {α β:Type} [Inhabited β] {f:α→List V} {g:β→α} {C:Cf} {b sz:Nat} {nw:Bool} {us:List α} {d:Array β} (hr:ziF C b false nw sz (us.map f)) (hsz:0<sz) [hf:CellsI f sz] (hint:∀ a,∀ d∈f a,∃ k x,d = .int k x) (hd:d.toList.map g=us)
  (enc:β→List Value) (he:∀ x,enc x=(f (g x)).map V.val):HoldsK enc sz C.w b 0 d:=by
 have hl:d.size=us.length:=by rw[←hd];simp
 intro t ht
 rw[size_flatK]at ht
 obtain⟨a,x,h1,h2,h3,h4⟩:=row_holds hr hsz hint (t:=t) (by rw[←hl];exact ht)
 refine⟨?_,by rw[Nat.zero_add];exact h4⟩
 rw[Nat.zero_add,h3]
 show _=some ((flatK enc sz d)[t]!)
 rw[get_flatK _ _ _ _ ht,he]
 have hi:t / sz<d.size:=Nat.div_lt_of_lt_mul (by rw[Nat.mul_comm];exact ht)
 have:g d[t / sz]! = a:=by
  rw[←hd,List.getElem?_map,Array.getElem?_toList,Array.getElem?_eq_getElem hi]at h1
  rw[getElem!_pos d _ hi];simpa using h1
 rw[this,List.getElem!_eq_getElem?_getD,List.getElem?_map,h2];rfl
def encE (e:End):List Value := [.int .i64 e.port,.int .i64 e.cost,.int .i64 e.other,.int .i64 e.oport]
theorem zmP (a:End):∀ d∈endV a,∃ k x,d = .int k x:=fun d h=>by
 simp only[endV,List.mem_cons,List.mem_nil_iff,or_false]at h
 rcases h with rfl|rfl|rfl|rfl<;>exact⟨_,_,rfl⟩
theorem zkN (a:Int):∀ d∈zad a,∃ k x,d = .int k x:=fun d h=>by
 simp only[zad,List.mem_cons,List.mem_nil_iff,or_false]at h
 subst h;exact⟨_,_,rfl⟩
abbrev zkO (r:List End) := { e:End // (1≤e.port∧e.port≤30)∧e∈r }
set_option maxHeartbeats 1000000 in
theorem zrk (x y:End) (hx:1≤x.port∧x.port≤30) (hy:1≤y.port∧y.port≤30) (W:World):Calls Tryz.prog 102 #[.agg (encE x).toArray,.agg (encE y).toArray] W fun e w'=>e = .returned (.int .i64 (x.port-y.port))∧∃ q os',w'=grow (W.drewN q) os':=by
 have hw:IntKind.i64.wrap (x.port-y.port)=x.port-y.port:=wrap_in (by simp only[InK];omega)
 unfold encE
 go_enter Tryz.func102,Tryz.ntmps102
 go_wp2
 go_ret
 exact⟨rfl,0,_,by rw[alloc_eq_grow,alloc_eq_grow,grow_grow];rfl⟩
theorem zrl (r:List End):SWO (ltOf fun x y:zkO r=>x.1.port-y.1.port) where
 irrefl x:=by simp[ltOf]
 trans x y z h1 h2:=by simp[ltOf]at *;omega
 ntrans x y z h1 h2:=by simp[ltOf]at *;omega
theorem zs0 : ∀ args w,(callFunc 102 args).run Tryz.prog w = .ok (.enter 102 args) w:=enters_of Tryz.func102 (by kernel_rfl) rfl
theorem zjn (r:List End) (hp:∀ e∈r,1≤e.port∧e.port≤30) (hn:r.length≤1000) (hd:∀ x∈r,∀ y∈r,x.port=y.port→x=y) :
  FnI Tryz.prog 101 [.own 1000 0 0 r.length,.dat false (.fn 102 [])] [(1000,.row 0 false true 4 (r.map endV))] [(1000,.row 0 false true 4 ((zdR r).map endV))]:=by
 refine⟨⟨_,Tryz.func101,rfl,rfl⟩,?_⟩
 intro C vs hm hvl hv
 match vs,hvl with
 | ⟨[v0,v1]⟩,_ =>
 have h0:=hv 0 _ v0 rfl rfl
 have h1:=hv 1 _ v1 rfl rfl
 have e1:v1 = .func (.func 102) #[] #[]:=by
  generalize he:v1=u at h1
  cases h1 with
  | fn f cap vs hl hr => 
   have:vs = #[]:=Array.eq_empty_of_size_eq_zero (by simpa using hl)
   subst this;rfl
 subst e1
 have hg:Mem.at [(1000,Box.row 0 false true 4 (r.map endV))] 1000 = .row 0 false true 4 (r.map endV):=rfl
 obtain⟨ver,frz,nw,sz,xs,e1,e2,⟨a,l,c,e3⟩,e4⟩:=h0
 rw[hg]at e1
 injection e1 with z1 z2 z3 z4 z5
 subst z1 z2 z3 z4 z5
 obtain⟨e5,e6⟩:=e4 rfl
 have hbx:=hm.box 1000
 rw[hg]at hbx
 unfold OwnV at e6
 by_cases hr0:r=[]
 ·subst hr0
  have hv0:∃ p cp,v0 = .slice p 0 cp:=by
   cases hi:C.ι 1000 with
   | none=>rw[hi]at e6;exact⟨_,_,e6.1⟩
   | some b=>rw[hi]at e6;obtain⟨cp,_,_,_,e7,_⟩:=e6;exact⟨_,_,e7⟩
  obtain⟨p,cp,rfl⟩:=hv0
  refine(AnyF.slices_SortFunc_none zmL p cp _ C.w).mono ?_
  rintro e w' ⟨rfl,rfl⟩
  exact⟨_,C,rfl,rfl,by
   have:zdR []=[]:=by simp[zdR]
   rw[this];exact Step.refl hm⟩
 ·cases hi:C.ι 1000 with
  | none=>rw[hi]at e6;exact absurd (List.length_eq_zero_iff.1 e6.2.2) hr0
  | some b =>
   rw[hi]at e6
   have hbx':ziF C b false true 4 (r.map endV):=by rw[hi]at hbx;exact hbx
   obtain⟨cp,arr,T,fz,e7,e8,e9,e10⟩:=e6
   have hv0:v0 = .slice (some ⟨b,0,none⟩) r.length cp:=by rw[e7,Nat.zero_mul]
   subst hv0
   obtain⟨e0,he0⟩:=List.exists_mem_of_ne_nil r hr0
   letI:Inhabited (zkO r):=⟨⟨e0,hp e0 he0,he0⟩⟩
   let d:Array (zkO r):=(r.pmap (fun e (h:(1≤e.port∧e.port≤30)∧e∈r)=>⟨e,h⟩) (fun e he=>⟨hp e he,he⟩)).toArray
   have hdl:d.toList.map (fun x=>x.1)=r:=by
    show(List.pmap _ r _).map _=r
    rw[List.map_pmap,List.pmap_eq_map,List.map_id']
   have hds:d.size=r.length:=by simp[d]
   have hbs:b<C.w.heap.size:=(Array.getElem?_eq_some_iff.1 e8).1
   have hcon:=AnyQ.slices_SortFunc_total zmL 4 Tryz.isAgg180 Tryz.sizeOf180 (fun x:zkO r=>encE x.1) (fun _=>rfl) (fun x v hv=>by simp[encE]at hv;rcases hv with rfl|rfl|rfl|rfl<;>rfl) (fun x y=>x.1.port-y.1.port) (zrl r)
    102 #[] b 0 cp d C.w zs0 (fun _ _ _ _ x y=>zrk x.1 y.1 x.2.1 y.2.1 _) (znH (g:=fun x:zkO r=>x.1) hbx' (by decide) zmP hdl _ (fun _=>rfl)) hbs (by omega) (fun x y h1 h2=>Subtype.ext (hd x.1 x.2.2 y.1 y.2.2 (by simp[ltOf]at h1 h2;omega)))
   rw[hds]at hcon
   refine hcon.mono ?_
   rintro e w' ⟨rfl,n,os,rfl⟩
   obtain⟨C',hC,hs⟩:=znG (g:=fun x:zkO r=>x.1) (n:=n) (d':=(d.toList.mergeSort fun x y => !(ltOf fun x y:zkO r=>x.1.port-y.1.port) y x).toArray) hm hg hi (by simp[hds]) zmP (fun x=>encE x.1) (fun _=>rfl) os
   refine⟨_,C',rfl,hC,?_⟩
   have hsort:((d.toList.mergeSort fun x y => !(ltOf fun x y:zkO r=>x.1.port-y.1.port) y x).toArray.toList.map fun x=>x.1)=zdR r:=by
    rw[List.toList_toArray,List.map_mergeSort (s:=fun x y:End=>decide (x.port≤y.port)) (fun x _ y _=>by simp[ltOf];by_cases h:x.1.port≤y.1.port<;>simp[h]<;>omega),hdl]
    rfl
   rw[hsort]at hs
   exact⟨zgC (fun _=>rfl) (fun g=>by show Mem.at _ g=Mem.at _ g;by_cases h:1000=g<;>simp[Mem.at,zai,h]) hs.ext,zbW (fun g=>by by_cases h:1000=g<;>simp[Mem.at,zai,h]) hs.holds,fun d v h=>zb7 (fun g=>by by_cases h:1000=g<;>simp[Mem.at,zai,h]) d v (hs.slot d v h)⟩
theorem zkP (F:Array Int) (arr:Array Value) (t:Nat) (h:t<F.size) (ha:F.size≤arr.size):(putCells (Value.int .i64) 0 F arr)[t]? = some (.int .i64 F[t]!):=by
 unfold putCells
 rw[Array.getElem?_mapIdx,Array.getElem?_eq_getElem (by omega)]
 simp[h]
theorem zpv (r:List Int) (hn:r.length≤1000) :
  FnI Tryz.prog 89 [.own 1000 0 0 r.length] [(1000,.row 0 false true 1 (r.map zad))] [(1000,.row 0 false true 1 ((zcj r).map zad))]:=by
 refine⟨⟨_,Tryz.func89,rfl,rfl⟩,?_⟩
 intro C vs hm hvl hv
 match vs,hvl with
 | ⟨[v0]⟩,_ =>
 have h0:=hv 0 _ v0 rfl rfl
 have hg:Mem.at [(1000,Box.row 0 false true 1 (r.map zad))] 1000 = .row 0 false true 1 (r.map zad):=rfl
 obtain⟨ver,frz,nw,sz,xs,e1,e2,⟨a,l,c,e3⟩,e4⟩:=h0
 rw[hg]at e1
 injection e1 with z1 z2 z3 z4 z5
 subst z1 z2 z3 z4 z5
 obtain⟨e5,e6⟩:=e4 rfl
 have hbx:=hm.box 1000
 rw[hg]at hbx
 unfold OwnV at e6
 by_cases hr0:r=[]
 ·subst hr0
  have hv0:∃ p cp,v0 = .slice p 0 cp:=by
   cases hi:C.ι 1000 with
   | none=>rw[hi]at e6;exact⟨_,_,e6.1⟩
   | some b=>rw[hi]at e6;obtain⟨cp,_,_,_,e7,_⟩:=e6;exact⟨_,_,e7⟩
  obtain⟨p,cp,rfl⟩:=hv0
  refine(AnyG.slices_Sort_int_none zmM p cp C.w).mono ?_
  rintro e w' ⟨rfl,rfl⟩
  exact⟨_,C,rfl,rfl,by
   have:zcj []=[]:=by simp[zcj]
   rw[this];exact Step.refl hm⟩
 ·cases hi:C.ι 1000 with
  | none=>rw[hi]at e6;exact absurd (List.length_eq_zero_iff.1 e6.2.2) hr0
  | some b =>
   rw[hi]at e6
   have hbx':ziF C b false true 1 (r.map zad):=by rw[hi]at hbx;exact hbx
   obtain⟨cp,arr,T,fz,e7,e8,e9,e10⟩:=e6
   have hv0:v0 = .slice (some ⟨b,0,none⟩) r.length cp:=by rw[e7,Nat.zero_mul]
   subst hv0
   have hbs:b<C.w.heap.size:=(Array.getElem?_eq_some_iff.1 e8).1
   have hH:Go.Sort.Holds (Value.int .i64) C.w b 0 r.toArray:=fun t ht=>by
    obtain⟨a,x,h1,h2,h3,h4⟩:=row_holds hbx' (by decide) zkN (t:=t) (by simpa using ht)
    refine⟨?_,by rw[Nat.zero_add];exact h4⟩
    rw[Nat.zero_add,h3]
    rw[Nat.div_one]at h1
    rw[Nat.mod_one]at h2
    simp only[zad,List.getElem?_cons_zero,Option.some.injEq]at h2
    subst h2
    have:r.toArray[t]! = a:=by
     rw[getElem!_pos r.toArray t ht]
     rw[List.getElem?_eq_getElem (by simpa using ht)]at h1
     simpa using h1
    rw[this];rfl
   refine(AnyG.slices_Sort_int zmM b 0 cp r C.w hH hbs (by omega)).mono ?_
   rintro e w' ⟨rfl,n,os,rfl⟩
   have hlen:(zcj r).length=r.length:=List.length_mergeSort r
   have hs:=zmO (n:=n) (us':=zcj r) hm hg hi hlen zkN (putCells (Value.int .i64) 0 (zcj r).toArray) (fun arr=>by simp[putCells]) (fun arr i j a d h1 h2 h3=>by
    have hj:j=0:=by
     have:=(List.getElem?_eq_some_iff.1 h3).1
     simp[zad]at this;exact this
    subst hj
    simp only[zad,List.getElem?_cons_zero,Option.some.injEq]at h3
    subst h3
    have hi':i<(zcj r).length:=(List.getElem?_eq_some_iff.1 h2).1
    rw[Nat.mul_one,Nat.add_zero,zkP _ _ _ (by simpa using hi') (by simp[hlen];omega)]
    have:(zcj r).toArray[i]! = a:=by
     rw[getElem!_pos _ i (by simpa using hi')]
     rw[List.getElem?_eq_getElem hi']at h2
     simpa using h2
    rw[this];rfl)
   obtain⟨C',e,hs'⟩:=zkM (m:=(1000,.row 0 false true 1 ((zcj r).map zad))::[(1000,.row 0 false true 1 (r.map zad))]) os hs.holds
   have hs2:=hs.trans hs'
   refine⟨_,C',rfl,e,?_⟩
   exact⟨zgC (fun _=>rfl) (fun g=>by by_cases h:1000=g<;>simp[Mem.at,zai,h]) hs2.ext,zbW (fun g=>by by_cases h:1000=g<;>simp[Mem.at,zai,h]) hs2.holds,fun d v h=>zb7 (fun g=>by by_cases h:1000=g<;>simp[Mem.at,zai,h]) d v (hs2.slot d v h)⟩
end Go.Proofs.YtcdhlofhhcgohaaGreat
namespace Go.Proofs.YtcdhlofhhcgohaaGreat
open Go.RowKit
attribute [local irreducible] SStep DW DWin DOps zaG zaE zaJ retQ zaN FnF FnG FnI Wk IntKind.wrap IntKind.andI IntKind.orI IntKind.xorI IntKind.andNotI IntKind.shlI IntKind.shrI Region.wrong Bridge.wrong Link.wrong Bridge.prio zb3 zdR zcj rawE rawP famX ctrD famM idsR srtX zdQ zb9
set_option maxHeartbeats 2000000 in
theorem zen (n:Net) (hn:n.links.length≤40) (i:Int):FnF Tryz.prog 46 [.rp n.cells,.int .i64 i] (.slice ((zah n.links i).map zad)):=by
 refine zal Tryz.func46 rfl rfl rfl ?_
 simp only[zap]
 have hml:(n.links.map zar).length=n.links.length:=by simp
 repeat' (first|refine qU ?_|((first|apply dX rfl|apply Da rfl rfl|apply Db rfl rfl qN);(focus ((try intro hg);first|exact qM));constructor)|refine qP ?_)
 refine zag (fun p:Nat×List Int=>⟨[(1,.dat false (.int .i64 i)),(5,.own 5 0 0 p.2.length),(11,.dat false (.slice (n.links.map zar))),(12,.dat true (.int .i64 (n.links.map zar).length)),(13,.dat true (.int .i64 p.1))],[(5,.row 0 false true 1 (p.2.map zad))],39⟩)
  (fun p=>p.1≤n.links.length∧p.2=rawP (n.links.take p.1) i) (fun p=>n.links.length-p.1) (0,[]) ⟨Nat.zero_le _,(zra _ _).symm⟩
  (Wk_g (fun g=>if g=5 then none else some g) rfl rfl kq) (fun p hR=>?_)
 obtain⟨k,us⟩:=p
 obtain⟨hk,hus⟩:=hR
 simp only at hk hus
 dsimp only
 have hul:us.length≤2*k:=by rw[hus];have:=zbz (n.links.take k) i;simp at this;omega
 by_cases hlt:k<n.links.length
 ·have hx:n.links[(k:Int).toNat]? = some n.links[k]:=by simp[hlt]
  have hst:=zo9 (i:=i) (show n.links[k]? = some n.links[k] by simp[hlt])
  rw[←hus]at hst
  generalize n.links[k]=l at hx hst
  have hpa:zd1 i l=(if l.a=i then [l.pa]else [])++(if l.b=i then [l.pb]else []):=rfl
  by_cases ha:l.a=i<;>by_cases hb:l.b=i
  ·rw[if_pos ha,if_pos hb]at hpa
   repeat' (first|refine qU ?_|refine qW ?_|((first|apply dX rfl|apply Da rfl rfl|apply Db rfl rfl qN);(focus ((try intro hg);first|exact zaf rfl rfl (by omega) hx|exact zan (f:=zad) (us:=us) (bs := [l.pa]) rfl rfl (.dat _ _) rfl rfl (.inr ⟨rfl,inferInstance⟩) rfl (by simp only[List.length_singleton];omega)|exact zan (f:=zad) (us:=us++[l.pa]) (bs := [l.pb]) rfl rfl (.dat _ _) rfl rfl (.inr ⟨rfl,inferInstance⟩) rfl (by simp only[List.length_singleton,List.length_append];omega)|exact qM));constructor)|refine qP ?_)
   exact zaa (k+1,us++[l.pa]++[l.pb]) ⟨hlt,by rw[hst,hpa];simp⟩ (by simp only;omega) (Wk_g some rfl rfl kq)
  ·rw[if_pos ha,if_neg hb]at hpa
   repeat' (first|refine qU ?_|refine qW ?_|((first|apply dX rfl|apply Da rfl rfl|apply Db rfl rfl qN);(focus ((try intro hg);first|exact zaf rfl rfl (by omega) hx|exact zan (f:=zad) (us:=us) (bs := [l.pa]) rfl rfl (.dat _ _) rfl rfl (.inr ⟨rfl,inferInstance⟩) rfl (by simp only[List.length_singleton];omega)|exact qM));constructor)|refine qP ?_)
   exact zaa (k+1,us++[l.pa]) ⟨hlt,by rw[hst,hpa];simp⟩ (by simp only;omega) (Wk_g some rfl rfl kq)
  ·rw[if_neg ha,if_pos hb]at hpa
   repeat' (first|refine qU ?_|refine qW ?_|((first|apply dX rfl|apply Da rfl rfl|apply Db rfl rfl qN);(focus ((try intro hg);first|exact zaf rfl rfl (by omega) hx|exact zan (f:=zad) (us:=us) (bs := [l.pb]) rfl rfl (.dat _ _) rfl rfl (.inr ⟨rfl,inferInstance⟩) rfl (by simp only[List.length_singleton];omega)|exact qM));constructor)|refine qP ?_)
   exact zaa (k+1,us++[l.pb]) ⟨hlt,by rw[hst,hpa];simp⟩ (by simp only;omega) (Wk_g some rfl rfl kq)
  ·rw[if_neg ha,if_neg hb]at hpa
   repeat' (first|refine qU ?_|refine qW ?_|((first|apply dX rfl|apply Da rfl rfl|apply Db rfl rfl qN);(focus ((try intro hg);first|exact zaf rfl rfl (by omega) hx|exact qM));constructor)|refine qP ?_)
   exact zaa (k+1,us) ⟨hlt,by rw[hst,hpa];simp⟩ (by simp only;omega) (Wk_g some rfl rfl kq)
 ·have he:us=rawP n.links i:=by rw[hus,List.take_of_length_le (by omega)]
  subst he
  have hsl:(zcj (rawP n.links i)).length=(rawP n.links i).length:=by with_unfolding_all exact List.length_mergeSort _
  have hso:=zpv (rawP n.links i) (by have:=zbz n.links i;omega)
  rw[zaW]
  repeat' (first|refine zcY 5 (bx := .row 0 false true 1 ((zcj (rawP n.links i)).map zad)) rfl ?_|refine qU ?_|refine qW ?_|((first|apply dX rfl|apply Da rfl rfl|apply Db rfl rfl qN);(focus ((try intro hg);first|exact zo0 5 hso rfl rfl|exact qM));constructor)|refine qP ?_)
  intro _
  refine zaR 5 rfl rfl (by rw[List.length_map,hsl]) ?_
  repeat' (first|refine qU ?_|((first|apply dX rfl|apply Da rfl rfl|apply Db rfl rfl qN);(focus ((try intro hg);first|exact qM));constructor)|refine qP ?_)
  refine ret1 rfl (.inl rfl) ?_
  rfl
theorem zjo (l:List End) (f:FuncId) (cap:List V) (p:End→Bool) (hf:∀ b,FnF Tryz.prog f (.agg (endV b)::cap) (.bool (p b))):FnF Tryz.prog 198 [.slice (l.map endV),.fn f cap] (.int .i64 (if l.any p then(l.findIdx p:Int)else -1)):=by
 refine zal Tryz.func198 rfl rfl rfl ?_
 simp only[zap]
 refine zbY 0 rfl (fun hlen=>?_)
 have hml:(l.map endV).length=l.length:=by simp
 repeat' (first|refine qU ?_|((first|apply dX rfl|apply Da rfl rfl|apply Db rfl rfl qN);(focus ((try intro hg);first|exact qM));constructor)|refine qP ?_)
 refine zag (fun k:Nat=>⟨[(0,.dat false (.slice (l.map endV))),(1,.dat false (.fn f cap)),(7,.dat true (.int .i64 (l.map endV).length)),(8,.dat true (.int .i64 k))],[],19⟩)
  (fun k=>k≤l.length∧(l.take k).any p=false) (fun k=>l.length-k) 0 ⟨Nat.zero_le _,by simp⟩
  (Wk_g some rfl rfl kq) (fun k hR=>?_)
 obtain⟨hk,ha⟩:=hR
 by_cases hlt:k<l.length
 ·have hx:l[(k:Int).toNat]? = some l[k]:=by simp[hlt]
  have hx':l[k]? = some l[k]:=by simp[hlt]
  have hfb:=hf l[k]
  generalize l[k]=b at hx hx' hfb
  have ht:l.take (k+1)=l.take k++[b]:=by rw[List.take_add_one,hx'];rfl
  cases hp:p b with
  | true =>
   rw[hp]at hfb
   repeat' (first|refine qU ?_|refine qW ?_|((first|apply dX rfl|apply Da rfl rfl|apply Db rfl rfl qN);(focus ((try intro hg);first|exact zaf rfl rfl (by omega) hx|exact zaq rfl rfl hfb|exact qM));constructor)|refine qP ?_)
   refine ret1 rfl (.inl rfl) ?_
   have hany:l.any p=true:=List.any_eq_true.2 ⟨b,List.mem_of_getElem? hx',hp⟩
   rw[if_pos hany]
   have:l.findIdx p=k:=by
    rw[List.findIdx_eq hlt]
    refine⟨?_,fun j hj=>?_⟩
    ·have:l[k]=b:=(List.getElem?_eq_some_iff.1 hx').2
     rw[this];exact hp
    ·have:=List.any_eq_false.1 ha (l[j]) (by rw[List.mem_take_iff_getElem];exact⟨j,by omega,rfl⟩)
     simpa using this
   rw[this]
  | false =>
   rw[hp]at hfb
   repeat' (first|refine qU ?_|refine qW ?_|((first|apply dX rfl|apply Da rfl rfl|apply Db rfl rfl qN);(focus ((try intro hg);first|exact zaf rfl rfl (by omega) hx|exact zaq rfl rfl hfb|exact qM));constructor)|refine qP ?_)
   exact zaa (k+1) ⟨hlt,by rw[ht,List.any_append,ha];simp[hp]⟩ (by omega) (Wk_g some rfl rfl kq)
 ·rw[List.take_of_length_le (by omega)]at ha
  repeat' (first|refine qU ?_|refine qW ?_|((first|apply dX rfl|apply Da rfl rfl|apply Db rfl rfl qN);(focus ((try intro hg);first|exact qM));constructor)|refine qP ?_)
  refine ret1 rfl (.inl rfl) ?_
  rw[if_neg (by rw[ha];simp)]
theorem zgc (l:List End) (f:FuncId) (cap:List V) (p:End→Bool) (hf:∀ b,FnF Tryz.prog f (.agg (endV b)::cap) (.bool (p b))):FnF Tryz.prog 172 [.slice (l.map endV),.fn f cap] (.bool (l.any p)):=by
 refine zal Tryz.func172 rfl rfl rfl ?_
 simp only[zap]
 repeat' (first|refine qU ?_|((first|apply dX rfl|apply Da rfl rfl|apply Db rfl rfl qN);(focus ((try intro hg);first|exact zac (zjo l f cap p hf) rfl|exact qM));constructor)|refine qP ?_)
 refine ret1 rfl (.inl rfl) ?_
 congr 1
 split
 ·rename_i h
  rw[h,decide_eq_true_iff];omega
 ·rename_i h
  rw[Bool.eq_false_iff.2 h,decide_eq_false_iff_not];omega
theorem zrm (p:Int) (e:End):FnF Tryz.prog 173 [.agg (endV e),.rp [.int .i64 p]] (.bool (decide (e.port=p))):=by
 refine zal Tryz.func173 rfl rfl rfl ?_
 simp only[zap]
 repeat' (first|refine qU ?_|((first|apply dX rfl|apply Da rfl rfl|apply Db rfl rfl qN);(focus ((try intro hg);first|exact qM));constructor)|refine qP ?_)
 refine ret1 rfl (.inl rfl) ?_
 rfl
set_option maxHeartbeats 2000000 in
theorem znI (n:Net) (hn:n.links.length≤40) (i:Int) (ends:List End) (says:Vec) (root:Int) (l:List Offer) :
  FnF Tryz.prog 137 [.rp n.cells,.int .i64 i,.slice (ends.map endV),says.v,.int .i64 root,offers l] (.tuple [.slice ((zah n.links i).map zad),.slice ((zde ends says root l (zah n.links i)).map zad)]):=by
 refine zal Tryz.func137 rfl rfl rfl ?_
 simp only[zap]
 have hpl:(zah n.links i).length≤80:=by
  have:=zbz n.links i
  rw[zaW];unfold zcj;rw[List.length_mergeSort];omega
 have hpo:=zen n hn i
 generalize zah n.links i=ps at hpl hpo
 have hml:(ps.map zad).length=ps.length:=by simp
 repeat' (first|refine qU ?_|((first|apply dX rfl|apply Da rfl rfl|apply Db rfl rfl qN);(focus ((try intro hg);first|exact zac hpo rfl|exact qM));constructor)|refine qP ?_)
 refine zag (fun p:Nat×List Int=>⟨[(2,.dat false (.slice (ends.map endV))),(4,.dat false (.int .i64 root)),(5,.dat false (offers l)),(9,.ptr 9 0),(12,.dat true (.slice (ps.map zad))),(13,.own 13 0 0 p.2.length),(20,.dat true (.slice (ps.map zad))),(21,.dat true (.int .i64 (ps.map zad).length)),(22,.dat true (.int .i64 p.1))],
   [(9,.cells false true (says.cells.map (.dat false))),(13,.row 0 false true 1 (p.2.map zad))],41⟩)
  (fun p=>p.1≤ps.length∧p.2=zde ends says root l (ps.take p.1)) (fun p=>ps.length-p.1) (0,[]) ⟨Nat.zero_le _,rfl⟩
  (Wk_g (fun g=>if g=13 then none else some g) rfl rfl kq) (fun p hR=>?_)
 obtain⟨k,us⟩:=p
 obtain⟨hk,hus⟩:=hR
 simp only at hk hus
 dsimp only
 have hul:us.length=k:=by rw[hus,zek];simp;omega
 by_cases hlt:k<ps.length
 ·have hx:ps[(k:Int).toNat]? = some ps[k]:=by simp[hlt]
  have ht:ps.take (k+1)=ps.take k++[ps[k]]:=by rw[List.take_add_one,List.getElem?_eq_getElem hlt];rfl
  generalize ps[k]=p at hx ht
  have hc:=zgc ends 173 [.rp [.int .i64 p]] (fun e=>decide (e.port=p)) (fun e=>zrm p e)
  have hnext:zde ends says root l (ps.take (k+1))=us++[if ends.any (fun e=>decide (e.port=p))then zb9 says root p l else 0]:=by
   rw[ht,hus];unfold zde;rw[List.map_append];rfl
  have hro:=zqQ says root p l
  cases ha:ends.any (fun e=>decide (e.port=p))with
  | true =>
   rw[ha]at hc hnext
   rw[if_pos rfl]at hnext
   repeat' (first|refine qU ?_|refine qW ?_|((first|apply dX rfl|apply Da rfl rfl|apply Db rfl rfl qN);(focus ((try intro hg);first|exact zaf rfl rfl (by omega) hx|exact zcI 15 rfl rfl (zbv rfl)|exact zac hc rfl|exact zac hro rfl|exact zan (f:=zad) (us:=us) (bs := [zb9 says root p l]) rfl rfl (.dat _ _) rfl rfl (.inr ⟨rfl,inferInstance⟩) rfl (by simp only[List.length_singleton];omega)|exact qM));constructor)|refine qP ?_)
   exact zaa (k+1,us++[zb9 says root p l]) ⟨hlt,hnext.symm⟩ (by simp only;omega) (Wk_g some rfl rfl kq)
  | false =>
   rw[ha]at hc hnext
   rw[if_neg (by simp)]at hnext
   repeat' (first|refine qU ?_|refine qW ?_|((first|apply dX rfl|apply Da rfl rfl|apply Db rfl rfl qN);(focus ((try intro hg);first|exact zaf rfl rfl (by omega) hx|exact zcI 15 rfl rfl (zbv rfl)|exact zac hc rfl|exact zan (f:=zad) (us:=us) (bs := [0]) rfl rfl (.dat _ _) rfl rfl (.inr ⟨rfl,inferInstance⟩) rfl (by simp only[List.length_singleton];omega)|exact qM));constructor)|refine qP ?_)
   exact zaa (k+1,us++[0]) ⟨hlt,hnext.symm⟩ (by simp only;omega) (Wk_g some rfl rfl kq)
 ·have he:us=zde ends says root l ps:=by rw[hus,List.take_of_length_le (by omega)]
  refine zaR 13 rfl rfl (by simp) ?_
  repeat' (first|refine qU ?_|refine qW ?_|((first|apply dX rfl|apply Da rfl rfl|apply Db rfl rfl qN);(focus ((try intro hg);first|exact qM));constructor)|refine qP ?_)
  refine ret2 rfl (.inl rfl) rfl (.inl rfl) ?_
  rw[←he]
end Go.Proofs.YtcdhlofhhcgohaaGreat
