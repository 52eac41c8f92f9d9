/- The D-machine, part 6: operations that make memory or write it (but append and calls). -/
import Derived.Laws.MakeOwn
import Derived.Test.YtcdhlofhhcgohaaGreatw5Mem
namespace Go.Proofs.YtcdhlofhhcgohaaGreat
open Go.RowKit
def V.zD : V→D
 | .slice []=>.nil
 | x=>.dat true x
theorem val_ok {C:Cf} {m:Mem} {x:V} (h:x.isC=true):RdS C m x.zD x.val:=by
 cases x with
 | bool b=>exact Rd.bool b
 | int k n=>exact Rd.int k n
 | str s=>exact Rd.str s
 | slice xs=>cases xs with
  | nil=>rfl
  | cons a l=>simp[V.isC]at h
 | _=>simp[V.isC]at h
theorem zof {S:Nat→Prop} {w:World} {x:V} (h:x.isC=true):Rd S w x x.val:=by
 cases x with
 | bool b=>exact Rd.bool b
 | int k n=>exact Rd.int k n
 | str s=>exact Rd.str s
 | slice xs=>cases xs with
  | nil=>exact Rd.nil
  | cons a l=>simp[V.isC]at h
 | _=>simp[V.isC]at h
theorem zsq {x:V} (h:x.isC=true):x.val.cells = #[x.val]:=by
 cases x<;>simp[V.isC]at h<;>rfl
theorem zog {x:V} (h:x.isC=true):x.one=true:=by
 cases x<;>simp[V.isC]at h<;>rfl
section
variable {P : Program}
theorem zcells {t:TypeId} {agg:Bool} {s by_:Nat} {z:List V} (h:TyI P t agg s by_ z):(zval agg z).cells=(z.map V.val).toArray:=by
 cases agg with
 | true=>rfl
 | false =>
  have hs:=h.z1 rfl
  have hl:=h.zl
  have hc:=h.zc
  subst hs
  match z,hl,hc with
  | [c],_,hc =>
   simp only[List.all_cons,List.all_nil,Bool.and_true]at hc
   simp[zval,zsq hc]
theorem zgA {C:Cf} {m:Mem} {t:TypeId} {agg:Bool} {s by_:Nat} {z:List V} (h:TyI P t agg s by_ z) (j:Nat) (d:D) (c:Value)
  (hd:(z.map V.zD)[j]? = some d) (hc:(z.map V.val).toArray[j]? = some c):RdS C m d c:=by
 simp only[List.getElem?_map,Option.map_eq_some_iff,List.getElem?_toArray]at hd hc
 obtain⟨x,hx,rfl⟩:=hd
 obtain⟨x',hx',rfl⟩:=hc
 rw[hx]at hx'
 injection hx' with hx'
 subst hx'
 have:=h.zc
 rw[List.all_eq_true]at this
 exact val_ok (this x (List.mem_of_getElem? hx))
theorem zef {t:TypeId} {agg:Bool} {s by_:Nat} {z:List V} (h:TyI P t agg s by_ z) (w:World):(zeroValue t).run P w = .ok (zval agg z) w:=by
 obtain⟨i,hi,_,_,hz⟩:=h.info
 simp[zeroValue,typeInfo,program,Sem.run,hi,hz]
end
theorem loose0 {s:Nat} (arr:Array Value):Loose s arr (0,0):=⟨fun i _ h=>by simp at h,Nat.le_refl _,.inr rfl⟩
def D.cells : D→Option (List D)
 | .dat n (.agg vs)=>some (vs.map (.dat n))
 | .dat n x=>bif x.one then some [.dat n x]else none
 | .aggd cs=>some cs
 | .nil=>some [.nil]
 | .own g v lo len=>some [.own g v lo len]
 | .ptr g o=>some [.ptr g o]
 | .rptr g v i o=>some [.rptr g v i o]
 | .mp g=>some [.mp g]
 | .sl g n=>some [.sl g n]
 | _=>none
theorem zbC {S:Nat→Prop} {w:World} {x:V} {v:Value} (h:Rd S w x v) (h1:x.one=true):v.cells = #[v]∧v.oneCell'=true:=by
 cases h<;>first|exact⟨rfl,rfl⟩|simp[V.one]at h1
theorem cells_ok {C:Cf} {m:Mem} {d:D} {v:Value} {cs:List D} (h:RdD C m d v) (hc:d.cells=some cs) :
  v.cells.size=cs.length∧∀ (j:Nat) dj c,cs[j]? = some dj→v.cells[j]? = some c→RdS C m dj c:=by
 have one:∀ {d:D},RdS C m d v→v.cells = #[v]→v.cells.size=[d].length∧∀ (j:Nat) dj c,[d][j]? = some dj→v.cells[j]? = some c→RdS C m dj c:=by
  intro d hr hv
  rw[hv]
  refine⟨rfl,fun j dj c h1 h2=>?_⟩
  cases j with
  | zero=>simp at h1 h2;subst h1;subst h2;exact hr
  | succ j=>simp at h1
 cases d with
 | dat n x =>
  by_cases hx:∃ vs,x = .agg vs
  ·obtain⟨vs,rfl⟩:=hx
   simp only[D.cells,Option.some.injEq]at hc
   subst hc
   have h':Rd (C.D n) C.w (.agg vs) v:=h
   cases h' with
   | agg _ us hl hr =>
    refine⟨by simp[Value.cells,hl],fun j dj c h1 h2=>?_⟩
    simp only[List.getElem?_map,Option.map_eq_some_iff]at h1
    obtain⟨x,hx,rfl⟩:=h1
    exact hr j x c hx h2
  ·have hone:x.one=true∧cs=[.dat n x]:=by
    cases x<;>simp_all [D.cells,V.one]
   obtain⟨h1,rfl⟩:=hone
   have h':Rd (C.D n) C.w x v:=h
   exact one h (zbC h' h1).1
 | aggd ds =>
  obtain⟨vs,rfl,hl,hr⟩:=h
  simp only[D.cells,Option.some.injEq]at hc
  subst hc
  exact⟨hl,hr⟩
 | nil =>
  simp only[D.cells,Option.some.injEq]at hc
  subst hc
  have hv:v = .slice none 0 0:=h
  subst hv
  exact one (d := .nil) rfl rfl
 | own g ver lo len =>
  simp only[D.cells,Option.some.injEq]at hc
  subst hc
  obtain⟨_,_,_,_,_,_,_,⟨a,l,c,hv⟩,_⟩:=id h
  exact one (d := .own g ver lo len) h (by rw[hv];rfl)
 | ptr g o =>
  simp only[D.cells,Option.some.injEq]at hc
  subst hc
  obtain⟨_,_,_,b,_,_,hv⟩:=id h
  exact one (d := .ptr g o) h (by rw[hv];rfl)
 | rptr g ver i o =>
  simp only[D.cells,Option.some.injEq]at hc
  subst hc
  obtain⟨_,_,_,_,_,_,_,⟨a,hv⟩,_⟩:=id h
  exact one (d := .rptr g ver i o) h (by rw[hv];rfl)
 | mp g =>
  simp only[D.cells,Option.some.injEq]at hc
  subst hc
  obtain⟨_,_,_,b,_,_,hv⟩:=id h
  exact one (d := .mp g) h (by rw[hv];rfl)
 | sl g n =>
  simp only[D.cells,Option.some.injEq]at hc
  subst hc
  obtain⟨_,_,_,b,cap,_,_,hv,_⟩:=id h
  exact one (d := .sl g n) h (by rw[hv];rfl)
 | _=>simp[D.cells]at hc
theorem step_cells {C:Cf} {m:Mem} {g:Nat} {w:World} {cs:List D} {arr:Array Value} {T:TypeId} (hm:HoldsM C m) (hg:m.at g = .gone) (hw:Grew C.w w) (hs:w.heap.size=C.w.heap.size)
  (hl:arr.size=cs.length) (hr:∀ (j:Nat) d c,cs[j]? = some d→arr[j]? = some c→RdS C m d c) :
  Step C m (C.set g (some C.w.heap.size) (w.alloc (.cells arr T))) ((g,.cells false true cs)::m):=by
 have hb:(w.alloc (.cells arr T)).heap[C.w.heap.size]? = some (.cells arr T (0,0)):=by
  rw[←hs];exact heap_alloc_new w _
 refine Step.fresh hm hg (hw.trans (Grew.alloc _ _)) (fun b hb=>by injection hb with hb;omega) (fun hd hsl=>?_)
 exact⟨_,rfl,arr,T,(0,0),hb,loose0 arr,Nat.le_of_eq hl.symm,fun j d c h1 h2=>hsl _ _ (hr j d c h1 h2),fun h=>by cases h⟩
theorem ziL {C:Cf} {m:Mem} {g:Nat} {w:World} {arr:Array Value} {T:TypeId} {fz:Nat×Nat} {sz:Nat} {nw:Bool} {xs:List (List V)} (hm:HoldsM C m) (hg:m.at g = .gone) (hw:Grew C.w w) (b:Nat) (hbn:C.w.heap.size≤b)
  (hb:w.heap[b]? = some (.cells arr T fz)) (hfz:Loose sz arr fz) (hl:xs.length*sz≤arr.size) (hel:∀ (i:Nat) (e:List V),xs[i]? = some e→e.length=sz)
  (h1:∀ (i j:Nat) (e:List V) (d:V),xs[i]? = some e→e[j]? = some d→d.one=true) (hr:∀ (i j:Nat) (e:List V) d c,xs[i]? = some e→e[j]? = some d→arr[i*sz+j]? = some c→RdF C nw d c) :
  Step C m (C.set g (some b) w) ((g,.row 0 false nw sz xs)::m):=by
 refine Step.fresh hm hg hw (fun b' hb'=>by injection hb' with hb';omega) (fun hd _=>?_)
 exact⟨arr,T,fz,hb,hfz,hl,hel,h1,fun i j e d c a1 a2 a3=>hd _ _ _ (hr i j e d c a1 a2 a3),fun h=>by cases h⟩
theorem zjN {C:Cf} {m:Mem} {g:Nat} {sz:Nat} {nw:Bool} (hm:HoldsM C m) (hg:m.at g = .gone):Step C m (C.set g none C.w) ((g,.row 0 false nw sz [])::m) :=
 Step.fresh hm hg (Grew.refl _) (fun b hb=>by cases hb) (fun _ _=>rfl)
def Cf.put (C:Cf) (X:Nat→Prop) (w:World):Cf := { C with S:=fun k=>C.S k∨X k,N:=fun k=>C.N k∨X k,w:=w }
theorem zc9 {C:Cf} {m:Mem} {w:World} (X:Nat→Prop) (hm:HoldsM C m) (hw:Grew C.w w) (hX:∀ k,X k→C.w.heap.size≤k∧k<w.heap.size):Step C m (C.put X w) m:=by
 have hlt:∀ {g' b},m.at g' ≠ .gone→C.ι g'=some b→b<C.w.heap.size:=fun h hi=>BoxOK.lt hm h hi
 have hd:∀ n x v,RdF C n x v→RdF (C.put X w) n x v:=fun n x v h=>by
  cases n
  ·exact Rd.mono h (fun _ h=>.inl h) (fun k hk=>hw.block k (hm.sdom k hk))
  ·exact Rd.mono h (fun _ h=>.inl h) (fun k hk=>hw.block k (hm.sdom k (hm.ns k hk)))
 have hs:∀ d v,RdS C m d v→RdS (C.put X w) m d v:=by
  intro d v h
  cases d with
  | dat n x=>exact hd n x v h
  | own g ver lo len =>
   obtain⟨ver',frz,nw,sz,xs,hat,hle,hsl,ho⟩:=h
   refine⟨ver',frz,nw,sz,xs,hat,hle,hsl,fun hv=>?_⟩
   obtain⟨hl,ho⟩:=ho hv
   refine⟨hl,?_⟩
   show OwnV w sz (C.ι g) lo len v
   unfold OwnV at *
   cases hio:C.ι g with
   | none=>simp only[hio]at ho ⊢;exact ho
   | some k =>
    simp only[hio]at ho ⊢
    obtain⟨cap,arr,T,fz,h1,h2,h3⟩:=ho
    exact⟨cap,arr,T,fz,h1,(hw.block k (Array.getElem?_eq_some_iff.1 h2).1).trans h2,h3⟩
  | _=>exact h
 refine⟨⟨hw.os,hw.tape,hw.output,hw.size,fun k hk _=>hw.block k hk,fun g' k h1 h2=>.inr ⟨g',h1,h2⟩,fun _ h=>.inl h,fun _ h=>.inl h,fun k h=>?_,fun k h=>?_⟩,⟨fun g'=>?_,hm.inj,fun g' k h1 h2 h3=>?_,fun k hk=>?_,fun k hk=>?_⟩,RdD.of_S hs⟩
 ·rcases h with h|h
  ·exact .inl h
  ·exact .inr (.inr h)
 ·rcases h with h|h
  ·exact .inl h
  ·exact .inr (.inl (hX k h).1)
 ·by_cases hgo:m.at g' = .gone
  ·rw[hgo];trivial
  ·exact BoxOK.upd (hm.box g') (fun k hk=>hw.block k (hlt hgo hk)) hd hs (fun _ h=>.inl h) (fun _ h=>.inl h)
 ·have hgo:m.at g' ≠ .gone:=by intro h;rw[h]at h1;simp[Box.mut]at h1
  rcases h3 with h3|h3
  ·exact hm.sep g' k h1 h2 h3
  ·have:=hlt hgo h2
   have:=(hX k h3).1
   omega
 ·rcases hk with hk|hk
  ·exact Nat.lt_of_lt_of_le (hm.sdom k hk) hw.size
  ·exact(hX k hk).2
 ·rcases hk with hk|hk
  ·exact .inl (hm.ns k hk)
  ·exact .inr hk
section
variable {P : Program} {e : Operand → D} {m : Mem} {dst : Option Tmp} {ty : TypeId} {pos : String} {af : Array Edge} {gd : Option (Nat × Bool)} {x y z : Operand} {t : TypeId} {yt : TypeId}
theorem zaF {agg:Bool} {s by_:Nat} {zs:List V} (g:Nat) [ht:TyI P t agg s by_ zs] (hg:m.at g = .gone) :
  SStep P ⟨dst,.alloc t,ty,pos,af,gd⟩ e m [] (.ptr g 0) [(g,.cells false true (zs.map V.zD))]:=by
 intro C m' a next Q ha hm _ hn
 have hrun:(execOp a.eval ⟨dst,.alloc t,ty,pos,af,gd⟩).run P C.w = .ok (.value (.pointer (some ⟨C.w.heap.size,0,none⟩))) (C.w.alloc (.cells (zs.map V.val).toArray t)):=by
  simp[execOp,Instr.alloc,zef ht,newVar,newRow,newObj,zcells ht,Sem.run]
 have hg':m'.at g = .gone:=(ha g (by simp)).trans hg
 have hst:=step_cells (T:=t) (cs:=zs.map V.zD) (arr:=(zs.map V.val).toArray) hm hg' (Grew.refl C.w) rfl (by simp) (fun j d c h1 h2=>zgA ht j d c h1 h2)
 refine zaC hrun (hn _ _ hst ⟨false,true,_,C.w.heap.size,Mem.at_cons_same _ _ _,Cf.set_same _ _ _ _,rfl⟩)
theorem ztT {cs:List D} (g:Nat) (hc:(e x).cells=some cs) (hg:m.at g = .gone) :
  SStep P ⟨dst,.box t x,ty,pos,af,gd⟩ e m [] (.ptr g 0) [(g,.cells false true cs)]:=by
 intro C m' a next Q ha hm hx hn
 have hrun:(execOp a.eval ⟨dst,.box t x,ty,pos,af,gd⟩).run P C.w = .ok (.value (.pointer (some ⟨C.w.heap.size,0,none⟩))) (C.w.alloc (.cells (a.eval x).cells t)):=by
  simp[execOp,Instr.box,newVar,newRow,newObj,Sem.run]
 have hg':m'.at g = .gone:=(ha g (by simp)).trans hg
 obtain⟨h1,h2⟩:=cells_ok (hx x (by simp[Op.operands])) hc
 have hst:=step_cells (T:=t) hm hg' (Grew.refl C.w) rfl h1 h2
 refine zaC hrun (hn _ _ hst ⟨false,true,_,C.w.heap.size,Mem.at_cons_same _ _ _,Cf.set_same _ _ _ _,rfl⟩)
def splice (cs:List D) (off:Nat) (ds:List D):List D:=cs.take off++(ds++cs.drop (off+ds.length))
theorem ze2 {cs:List D} {off:Nat} {ds:List D} (h:off+ds.length≤cs.length):(splice cs off ds).length=cs.length:=by
 simp[splice];omega
theorem zfp {cs:List D} {off:Nat} {ds:List D} (h:off+ds.length≤cs.length) (j:Nat) :
  (splice cs off ds)[j]? = if off≤j∧j<off+ds.length then ds[j-off]? else cs[j]? := by
 unfold splice
 rw[List.getElem?_append,List.length_take,Nat.min_eq_left (by omega)]
 by_cases h1:j<off
 ·rw[if_pos h1,if_neg (by omega),List.getElem?_take,if_pos h1]
 ·rw[if_neg h1,List.getElem?_append]
  by_cases h2:j<off+ds.length
  ·rw[if_pos (by omega),if_pos (by omega)]
  ·rw[if_neg (by omega),if_neg (by omega),List.getElem?_drop]
   congr 1
   omega
theorem zbu {P:Program} {s:Nat} (b:Nat) (T:TypeId) (fz:Nat×Nat):∀ (vs:List Value) (i off:Nat) (w:World) (arr:Array Value),w.heap[b]? = some (.cells arr T fz)→Loose s arr fz →
  off+i+vs.length≤arr.size→(∀ u,u∈vs→u.oneCell'=true) →
  ∃ w' arr',(storeCells ⟨b,off,none⟩ vs i).run P w = .ok () w'∧w'.heap[b]? = some (.cells arr' T fz)∧arr'.size=arr.size ∧
   (∀ j,arr'[j]? = if off+i≤j∧j<off+i+vs.length then vs[j-(off+i)]? else arr[j]?) ∧
   w'.os=w.os∧w'.tape=w.tape∧w'.output=w.output∧w'.heap.size=w.heap.size∧(∀ k,k≠b→w'.heap[k]? = w.heap[k]?)
 | [],i,off,w,arr,h,_,_,_=>⟨w,arr,by simp[storeCells],h,rfl,fun j=>by simp;omega,rfl,rfl,rfl,rfl,fun _ _=>rfl⟩
 | v :: vs,i,off,w,arr,h,hl,hs,h1=>by
  simp only[List.length_cons]at hs
  have hlt:off+i<arr.size:=by omega
  have hcell:w.cell? ⟨b,off+i,none⟩=some arr[off+i]:=by rw[zaz h];exact Array.getElem?_eq_getElem hlt
  have hfro:w.frozen? ⟨b,off+i,none⟩=false:=by
   have:=hl.1 (off+i) hlt
   simp only[World.frozen?,h]
   simp only[Bool.and_eq_false_iff,decide_eq_false_iff_not]
   rcases Decidable.em (fz.1≤off+i)with hh|hh
   ·exact .inr (fun h2=>this ⟨hh,h2⟩)
   ·exact .inl hh
  have hheap:(w.setCell ⟨b,off+i,none⟩ v).heap[b]? = some (.cells (arr.setIfInBounds (off+i) v) T fz):=by
   simp[World.setCell,Array.getElem?_modify,h]
  obtain⟨w',arr',hr,g1,g2,g3,g4,g5,g6,g7,g8⟩:=zbu (P:=P) b T fz vs (i+1) off (w.setCell ⟨b,off+i,none⟩ v) (arr.setIfInBounds (off+i) v) hheap
   ⟨fun j hj=>hl.1 j (by simpa using hj),hl.2⟩ (by simp;omega) (fun u hu=>h1 u (List.mem_cons_of_mem _ hu))
  refine⟨w',arr',?_,g1,by simpa using g2,fun j=>?_,g4,g5,g6,by simpa using g7,fun k hk=>(g8 k hk).trans (Below.heap_setCell w _ v k hk)⟩
  ·simp only[storeCells,Sem.run_bind,aadd,run_store P w _ v .plain (h1 v (List.mem_cons_self ..)),hcell,hfro]
   simpa using hr
  ·rw [g3 j]
   by_cases c1:off+(i+1)≤j∧j<off+(i+1)+vs.length
   ·rw[if_pos c1,if_pos (by simp;omega)]
    obtain⟨q,hq⟩:∃ q,j-(off+i)=q+1:=⟨j-(off+i)-1,by omega⟩
    rw[hq,List.getElem?_cons_succ]
    congr 1
    omega
   ·rw[if_neg c1]
    by_cases c2:j=off+i
    ·subst c2
     rw[if_pos (by simp)]
     simp[hlt]
    ·rw[if_neg (by simp;omega),Array.getElem?_setIfInBounds,if_neg (by omega)]
theorem cells_one {C:Cf} {m:Mem} {d:D} {v:Value} {cs:List D} (h:RdD C m d v) (hc:d.cells=some cs) (h1:∀ (n:Bool) (x:V),D.dat n x∈cs→x.one=true) (ha:D.any∉cs) :
  ∀ u,u∈v.cells.toList→u.oneCell'=true:=by
 obtain⟨hs,hr⟩:=cells_ok h hc
 intro u hu
 obtain⟨j,hj,rfl⟩:=List.mem_iff_getElem.1 hu
 have hj':j<v.cells.size:=by simpa using hj
 have hu':v.cells[j]? = some v.cells[j]:=Array.getElem?_eq_getElem hj'
 have hd:cs[j]? = some (cs[j]'(by omega)):=List.getElem?_eq_getElem (by omega)
 have hmem:=List.mem_of_getElem? hd
 have:=hr j _ _ hd hu'
 simp only[Array.getElem_toList]
 generalize cs[j]'(by omega)=dj at this hmem
 cases dj with
 | any=>exact absurd hmem ha
 | nil=>have:v.cells[j] = .slice none 0 0:=this;rw[this];rfl
 | grd _ _=>exact this.elim
 | aggd _=>exact this.elim
 | fnd _ _=>exact this.elim
 | dat n x=>exact(zbC (show Rd _ _ x _ from this) (h1 n x hmem)).2
 | own g ver lo len=>obtain⟨_,_,_,_,_,_,_,⟨_,_,_,hv⟩,_⟩:=this;rw[hv];rfl
 | ptr g o=>obtain⟨_,_,_,_,_,_,hv⟩:=this;rw[hv];rfl
 | rptr g ver i o=>obtain⟨_,_,_,_,_,_,_,⟨_,hv⟩,_⟩:=this;rw[hv];rfl
 | mp g=>obtain⟨_,_,_,_,_,_,hv⟩:=this;rw[hv];rfl
 | sl g n=>obtain⟨_,_,_,_,_,_,_,hv,_⟩:=this;rw[hv];rfl
def zli (cs:List D):Bool:=cs.all fun d=>match d with
 | .dat _ x=>x.one
 | .any | .grd _ _ | .aggd _ | .fnd _ _=>false
 | _=>true
theorem zfQ {P:Program} {t:TypeId} {agg:Bool} {s by_:Nat} {zs:List V} (ht:TyI P t agg s by_ zs) (a:Addr) (v:Value) (w:World) (hs:v.cells.size=s) :
  (storeVar t a v).run P w=(storeCells a v.cells.toList).run P w:=by
 simp only[storeVar,Sem.run_bind,zaS ht,Result.andThen_ok,hs,ne_eq,not_true_eq_false,if_false]
theorem zbg {agg nw:Bool} {s by_ g off:Nat} {zs:List V} {cs ds:List D} [ht:TyI P t agg s by_ zs] (h:e x = .ptr g off) (hm:m.at g = .cells false nw cs)
  (hd:(e y).cells=some ds) (hok:zli ds=true) (hl:ds.length=s) (hle:Nat.ble (off+s) cs.length=true) :
  SStep P ⟨none,.store t x y,ty,pos,af,gd⟩ e m [g] .any [(g,.cells false nw (splice cs off ds))]:=by
 intro C m' a next Q ha hh hx hn
 have hle:=Nat.le_of_ble_eq_true hle
 have g1:=hx x (by simp[Op.operands]);rw[h]at g1
 have g2:=hx y (by simp[Op.operands])
 obtain⟨frz',nw',cs',b,hat,hi,hv⟩:=g1
 have hmg:m'.at g = .cells false nw cs:=(ha g (by simp)).trans hm
 have hb:=hh.box g
 rw[hmg]at hb
 obtain⟨b',hi',arr,T,fz,h1,h2,h3,h4,h5⟩:=hb
 rw[hi]at hi'
 injection hi' with hi'
 subst hi'
 obtain⟨hcs,hcr⟩:=cells_ok g2 hd
 have hone:∀ u,u∈(a.eval y).cells.toList→u.oneCell'=true:=by
  unfold zli at hok
  rw[List.all_eq_true]at hok
  exact cells_one g2 hd (fun n x hx=>hok _ hx) (fun hx=>by simpa using hok _ hx)
 obtain⟨w',arr',hr,q1,q2,q3,q4,q5,q6,q7,q8⟩:=zbu (P:=P) b T fz (a.eval y).cells.toList 0 off C.w arr h1 h2 (by simp;omega) hone
 have hlen:(a.eval y).cells.toList.length=ds.length:=by simpa using hcs
 have hst:Step C m' { C with w:=w' } ((g,.cells false nw (splice cs off ds))::m'):=by
  refine Step.write hh (by rw[hmg];rfl) hi q4 q5 q6 q7 q8 ?_ ?_ ?_ ?_ (fun hdd hss=>?_)
  ·rintro ver lo len v ⟨_,_,_,_,_,hat',_⟩;rw[hmg]at hat';cases hat'
  ·rintro off' v ⟨frz2,nw2,cs2,b2,hat',hi2,hv2⟩
   exact⟨false,nw,_,b2,Mem.at_cons_same _ _ _,hi2,hv2⟩
  ·rintro ver i off' v ⟨_,_,_,_,_,hat',_⟩;rw[hmg]at hat';cases hat'
  ·rintro v ⟨_,_,_,_,hat',_⟩;rw[hmg]at hat';cases hat'
  ·refine⟨b,rfl,arr',T,fz,q1,⟨fun i hi=>h2.1 i (by omega),h2.2⟩,by rw[q2,ze2 (by omega)];exact h3,fun j d c hdj hcj=>hss _ _ ?_,fun hf=>by cases hf⟩
   rw[zfp (by omega)]at hdj
   rw[q3 j]at hcj
   simp only[Nat.add_zero,hlen]at hcj
   by_cases hc:off≤j∧j<off+ds.length
   ·rw[if_pos hc]at hdj hcj
    exact hcr _ _ _ hdj (by simpa using hcj)
   ·rw[if_neg hc]at hdj hcj
    exact h4 j d c hdj hcj
 refine zfn (w':=w') ?_ (hn undef _ hst trivial)
 simp only[execOp,hv,Instr.storeAt,Instr.sureAddr,Sem.run_bind,Sem.run_pure,Result.andThen_ok,zfQ ht _ _ _ (hcs.trans hl),hr]
def D.vcells (m:Mem) (d:D):Option (Bool×List V):=match d.cells with
 | some cs=>asVs m cs
 | none=>none
theorem zjO {C:Cf} {m m':Mem} {d:D} {v:Value} {n:Bool} {vs:List V} (hm:HoldsM C m') (ha:∀ g,g∈refs0 d∨(∃ cs,d = .aggd cs∧g∈cs.flatMap refs0)→m'.at g=m.at g) (h:D.vcells m d=some (n,vs)) (hd:RdD C m' d v) :
  v.cells.size=vs.length∧∀ (j:Nat) x c,vs[j]? = some x→v.cells[j]? = some c→RdF C n x c:=by
 unfold D.vcells at h
 cases hc:d.cells with
 | none=>simp[hc]at h
 | some cs =>
  simp only[hc]at h
  obtain⟨h1,h2⟩:=cells_ok hd hc
  have hrefs:∀ g,g∈cs.flatMap refs0→m'.at g=m.at g:=by
   intro g hg
   cases d with
   | dat n x =>
    exfalso
    have:∀ d',d'∈cs→refs0 d'=[]:=by
     intro d' hd'
     have hform:∃ x',d' = .dat n x':=by
      by_cases hx:∃ us,x = .agg us
      ·obtain⟨us,rfl⟩:=hx
       simp only[D.cells,Option.some.injEq]at hc
       subst hc
       obtain⟨a,_,rfl⟩:=List.mem_map.1 hd'
       exact⟨a,rfl⟩
      ·have:cs=[.dat n x]:=by cases x<;>simp_all [D.cells,V.one]
       subst this
       exact⟨x,by simpa using hd'⟩
     obtain⟨x',rfl⟩:=hform
     rfl
    rw[List.mem_flatMap]at hg
    obtain⟨d',hd',hg'⟩:=hg
    rw[this d' hd']at hg'
    cases hg'
   | aggd ds=>simp only[D.cells,Option.some.injEq]at hc;subst hc;exact ha g (.inr ⟨ds,rfl,hg⟩)
   | nil=>simp only[D.cells,Option.some.injEq]at hc;subst hc;exact ha g (.inl (by simpa using hg))
   | own _ _ _ _=>simp only[D.cells,Option.some.injEq]at hc;subst hc;exact ha g (.inl (by simpa using hg))
   | ptr _ _=>simp only[D.cells,Option.some.injEq]at hc;subst hc;exact ha g (.inl (by simpa using hg))
   | rptr _ _ _ _=>simp only[D.cells,Option.some.injEq]at hc;subst hc;exact ha g (.inl (by simpa using hg))
   | mp _=>simp only[D.cells,Option.some.injEq]at hc;subst hc;exact ha g (.inl (by simpa using hg))
   | sl _ _=>simp only[D.cells,Option.some.injEq]at hc;subst hc;exact ha g (.inl (by simpa using hg))
   | _=>simp[D.cells]at hc
  obtain⟨h3,h4⟩:=zfo hm cs n vs hrefs h
  refine⟨by omega,fun j x c hx hcv=>?_⟩
  have hj:j<cs.length:=by have:=(List.getElem?_eq_some_iff.1 hx).1;omega
  have hcs:cs[j]? = some cs[j]:=List.getElem?_eq_getElem hj
  exact h4 j cs[j] x c hcs hx (h2 j cs[j] c hcs hcv)
end
end Go.Proofs.YtcdhlofhhcgohaaGreat
