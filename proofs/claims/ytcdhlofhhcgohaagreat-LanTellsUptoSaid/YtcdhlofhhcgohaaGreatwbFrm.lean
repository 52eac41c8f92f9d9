/- A call that works on some of the caller's memory in its place, under the same names: contracts (FnM), the frame around them, the calls. -/
import Derived.Test.YtcdhlofhhcgohaaGreatwbNst
namespace Go.Proofs.YtcdhlofhhcgohaaGreat
open Go.RowKit
def FnM (P:Program) (f:FuncId) (ds:List D) (mk:Mem) (r:D) (mk':Mem):Prop:=Callable P f ∧
 ∀ (C:Cf) (vs:Array Value),HoldsM C mk→vs.size=ds.length→(∀ (j:Nat) d v,ds[j]? = some d→vs[j]? = some v→RdD C mk d v) →
  Calls P f vs C.w fun e w'=>∃ v C',e = .returned v∧C'.w=w'∧Step C mk C' mk'∧RdD C' mk' r v
def mixC (K:List Nat) (C C1:Cf):Cf := { C1 with ι:=fun g=>if K.contains g then C1.ι g else C.ι g }
def mixM (mk':Mem):List Nat→Mem
 | []=>[]
 | g::r=>(g,mk'.at g)::mixM mk' r
theorem zhn {mk' M:Mem} (g:Nat):∀ K:List Nat,Mem.at (mixM mk' K++M) g=if K.contains g then mk'.at g else M.at g
 | []=>rfl
 | k::r=>by
  show look _ ((k,_)::(mixM mk' r++M)) g=_
  rw[zai]
  by_cases h:k=g
  ·subst h;rw[if_pos rfl];simp
  ·rw[if_neg h]
   have ih:=zhn (mk':=mk') (M:=M) g r
   unfold Mem.at at ih ⊢
   rw[ih]
   have:(k::r).contains g=r.contains g:=by
    simp only[List.contains_cons]
    have:(g == k)=false:=by simp;exact fun e=>h e.symm
    rw[this];rfl
   rw[this]
def refD : D→Option Nat
 | .own g _ _ _=>some g
 | .ptr g _=>some g
 | .rptr g _ _ _=>some g
 | .mp g=>some g
 | .sl g _=>some g
 | _=>none
def inKD (K:List Nat) (d:D):Prop:=∀ g,refD d=some g→K.contains g=true
theorem zf3 {C C':Cf} {m m':Mem} {d:D} {v:Value} (hw:C'.w=C.w) (hS:C'.S=C.S) (hN:C'.N=C.N) (h:∀ g,refD d=some g→m'.at g=m.at g∧C'.ι g=C.ι g) (hr:RdS C m d v):RdS C' m' d v:=by
 have hD:∀ n,C'.D n=C.D n:=fun n=>by unfold Cf.D;rw[hS,hN]
 cases d with
 | any=>trivial
 | nil=>exact hr
 | grd b d=>exact hr.elim
 | aggd cs=>exact hr.elim
 | fnd _ _=>exact hr.elim
 | dat n x =>
  have hr:Rd (C.D n) C.w x v:=hr
  show Rd (C'.D n) C'.w x v
  rw[hD,hw];exact hr
 | own g ver lo len =>
  obtain⟨e1,e2⟩:=h g rfl
  obtain⟨ver',frz,nw,sz,xs,p1,p2,p3,p4⟩:=hr
  refine⟨ver',frz,nw,sz,xs,e1.trans p1,p2,p3,fun hv=>?_⟩
  rw[hw,e2];exact p4 hv
 | ptr g off =>
  obtain⟨e1,e2⟩:=h g rfl
  obtain⟨frz,nw,cs,b,p1,p2,p3⟩:=hr
  exact⟨frz,nw,cs,b,e1.trans p1,e2.trans p2,p3⟩
 | rptr g ver i off =>
  obtain⟨e1,e2⟩:=h g rfl
  obtain⟨ver',frz,nw,sz,xs,p1,p2,p3,p4⟩:=hr
  refine⟨ver',frz,nw,sz,xs,e1.trans p1,p2,p3,fun hv=>?_⟩
  obtain⟨q1,b,q2,q3⟩:=p4 hv
  exact⟨q1,b,e2.trans q2,q3⟩
 | mp g =>
  obtain⟨e1,e2⟩:=h g rfl
  obtain⟨kt,et,es,b,p1,p2,p3⟩:=hr
  exact⟨kt,et,es,b,e1.trans p1,e2.trans p2,p3⟩
 | sl g n =>
  obtain⟨e1,e2⟩:=h g rfl
  obtain⟨frz,nw,cs,b,cap,p1,p2,p3⟩:=hr
  exact⟨frz,nw,cs,b,cap,e1.trans p1,e2.trans p2,p3⟩
theorem zmT {C:Cf} {m:Mem} {d:D} {v:Value} (h:RdD C m d v) (hn:∀ b d',d ≠ .grd b d') (hn2:∀ cs,d ≠ .aggd cs) (hn3:∀ f cs,d ≠ .fnd f cs):RdS C m d v:=by
 cases d<;>first|exact h|exact absurd rfl (hn _ _)|exact absurd rfl (hn2 _)|exact absurd rfl (hn3 _ _)
theorem zdk {C:Cf} {m:Mem} {d:D} {v:Value} (h:RdS C m d v) {g:Nat} (hg:refD d=some g):m.at g ≠ .gone:=by
 intro e
 cases d with
 | own g' ver lo len=>injection hg with hg;subst hg;obtain⟨_,_,_,_,_,q,_⟩:=h;rw[e]at q;cases q
 | ptr g' off=>injection hg with hg;subst hg;obtain⟨_,_,_,_,q,_⟩:=h;rw[e]at q;cases q
 | rptr g' ver i off=>injection hg with hg;subst hg;obtain⟨_,_,_,_,_,q,_⟩:=h;rw[e]at q;cases q
 | mp g'=>injection hg with hg;subst hg;obtain⟨_,_,_,_,q,_⟩:=h;rw[e]at q;cases q
 | sl g' n=>injection hg with hg;subst hg;obtain⟨_,_,_,_,_,q,_⟩:=h;rw[e]at q;cases q
 | any=>cases hg
 | nil=>cases hg
 | grd b d=>cases hg
 | dat n x=>cases hg
 | aggd cs=>cases hg
 | fnd _ _=>cases hg
section
variable {C C1 : Cf} {M mk mk' : Mem} {K : List Nat}
theorem sub_holds (hh:HoldsM C M) (hin:∀ g,K.contains g=true→mk.at g=M.at g) (hout:∀ g,K.contains g=false→mk.at g = .gone)
  (hcl:∀ g frz nw cs,mk.at g = .cells frz nw cs→∀ d∈cs,inKD K d):HoldsM C mk:=by
 have hat:∀ g,mk.at g ≠ .gone→mk.at g=M.at g:=fun g h=>by
  cases hk:K.contains g
  ·exact absurd (hout g hk) h
  ·exact hin g hk
 refine⟨fun g=>?_,fun g g' b h1 h2=>hh.inj g g' b (by rw[←hat g h1];exact h1) (by rw[←hat g' h2];exact h2),fun g b hm=>?_,hh.sdom,hh.ns⟩
 ·by_cases hg:mk.at g = .gone
  ·rw[hg];trivial
  ·have hb:=hh.box g
   rw[←hat g hg]at hb
   cases hbx:mk.at g with
   | gone=>trivial
   | cells frz nw cs =>
    rw[hbx]at hb
    obtain⟨b,e,arr,T,fz,q1,q2,q3,q4,q5⟩:=hb
    refine⟨b,e,arr,T,fz,q1,q2,q3,fun j d c hd hc=>zf3 rfl rfl rfl (fun g' hg'=>⟨?_,rfl⟩) (q4 j d c hd hc),q5⟩
    exact hin g' (hcl g frz nw cs hbx d (List.mem_of_getElem? hd) g' hg')
   | row ver frz nw sz xs=>rw[hbx]at hb;exact hb
   | mapb kt et es=>rw[hbx]at hb;exact hb
 ·have hne:mk.at g ≠ .gone:=by intro e;rw[e]at hm;cases hm
  rw[hat g hne]at hm
  exact hh.sep g b hm
theorem ziw (hh:HoldsM C M) (hin:∀ g,K.contains g=true→mk.at g=M.at g) (hout:∀ g,K.contains g=false→mk.at g = .gone) (hout':∀ g,K.contains g=false→mk'.at g = .gone) (hmut:∀ g,mk'.at g ≠ .gone→(mk'.at g).mut=true)
  (hst:Step C mk C1 mk'):Step C M (mixC K C C1) (mixM mk' K++M):=by
 have hx:=hst.ext
 have h1:=hst.holds
 have hslot:=hst.slot
 have hat:=zhn (mk':=mk') (M:=M)
 have hι:∀ g,(mixC K C C1).ι g=if K.contains g then C1.ι g else C.ι g:=fun _=>rfl
 have lt:∀ {g b},M.at g ≠ .gone→C.ι g=some b→b<C.w.heap.size:=fun h i=>BoxOK.lt hh h i
 have mutK:∀ k,(mk.at k).mut=true→K.contains k=true∧(M.at k).mut=true:=fun k hm=>by
  cases hk:K.contains k
  ·rw[hout k hk]at hm;cases hm
  ·exact⟨rfl,by rw[←hin k hk];exact hm⟩
 have keepS:∀ b,C.S b→C1.w.heap[b]? = C.w.heap[b]? := fun b hb=>hx.keep b (hh.sdom b hb) (fun k hm hi=>hh.sep k b (mutK k hm).2 hi hb)
 have keepG:∀ g b,K.contains g=false→M.at g ≠ .gone→C.ι g=some b→C1.w.heap[b]? = C.w.heap[b]? := fun g b hg hgo hi=>hx.keep b (lt hgo hi) (fun k hm hik=>by
  obtain⟨hk,mu⟩:=mutK k hm
  have:M.at k ≠ .gone:=by intro h;rw[h]at mu;cases mu
  have:=hh.inj k g b this hgo hik hi
  subst this
  rw[hk]at hg;cases hg)
 have hd:∀ n x v,RdF C n x v→RdF (mixC K C C1) n x v:=fun n x v h=>by
  cases n
  ·exact Rd.mono h hx.sS keepS
  ·exact Rd.mono h hx.sN (fun b hb=>keepS b (hh.ns b hb))
 have hs:∀ d v,RdS C M d v→RdS (mixC K C C1) (mixM mk' K++M) d v:=by
  intro d v h
  by_cases hk:∃ g,refD d=some g∧K.contains g=true
  ·obtain⟨g,hg,hgk⟩:=hk
   have h2:RdS C mk d v:=zf3 rfl rfl rfl (fun g' hg'=>⟨by rw[hg]at hg';injection hg' with hg';subst hg';exact hin g hgk,rfl⟩) h
   have h3:RdS C1 mk' d v:=zmT (hslot d v h2.rd) (fun b d' e=>by subst e;exact h.elim) (fun cs e=>by subst e;exact h.elim) (fun f cs e=>by subst e;exact h.elim)
   exact zf3 (C:=C1) (m:=mk') rfl rfl rfl (fun g' hg'=>by
    rw[hg]at hg';injection hg' with hg';subst hg'
    exact⟨by rw[hat,hgk];rfl,by rw[hι,hgk];rfl⟩) h3
  ·have hout2:∀ g,refD d=some g→K.contains g=false:=fun g hg=>Bool.eq_false_iff.2 fun hc=>hk ⟨g,hg,hc⟩
   have hgo:∀ g,refD d=some g→M.at g ≠ .gone:=fun g hg=>zdk h hg
   cases d with
   | any=>trivial
   | nil=>exact h
   | grd b d=>exact h.elim
   | aggd cs=>exact h.elim
   | fnd _ _=>exact h.elim
   | dat n x=>exact hd n x v h
   | own g ver lo len =>
    obtain⟨ver',frz,nw,sz,xs,e1,e2,e3,e4⟩:=h
    have hg:=hout2 g rfl
    refine⟨ver',frz,nw,sz,xs,by rw[hat,hg];exact e1,e2,e3,fun hv=>?_⟩
    obtain⟨q1,q2⟩:=e4 hv
    refine⟨q1,?_⟩
    rw[hι,hg]
    show OwnV C1.w sz (C.ι g) lo len v
    unfold OwnV at *
    cases hi:C.ι g with
    | none=>simp only[hi]at q2 ⊢;exact q2
    | some b =>
     simp only[hi]at q2 ⊢
     obtain⟨cap,arr,T',fz,p1,p2,p3⟩:=q2
     exact⟨cap,arr,T',fz,p1,(keepG g b hg (hgo g rfl) hi).trans p2,p3⟩
   | ptr g off =>
    obtain⟨frz,nw,cs,b,e1,e2,e3⟩:=h
    have hg:=hout2 g rfl
    exact⟨frz,nw,cs,b,by rw[hat,hg];exact e1,by rw[hι,hg];exact e2,e3⟩
   | rptr g ver i off =>
    obtain⟨ver',frz,nw,sz,xs,e1,e2,e3,e4⟩:=h
    have hg:=hout2 g rfl
    refine⟨ver',frz,nw,sz,xs,by rw[hat,hg];exact e1,e2,e3,fun hv=>?_⟩
    obtain⟨q1,b,q2,q3⟩:=e4 hv
    exact⟨q1,b,by rw[hι,hg];exact q2,q3⟩
   | mp g =>
    obtain⟨kt,et,es,b,e1,e2,e3⟩:=h
    have hg:=hout2 g rfl
    exact⟨kt,et,es,b,by rw[hat,hg];exact e1,by rw[hι,hg];exact e2,e3⟩
   | sl g n =>
    obtain⟨frz,nw,cs,b,cap,e1,e2,e3⟩:=h
    have hg:=hout2 g rfl
    exact⟨frz,nw,cs,b,cap,by rw[hat,hg];exact e1,by rw[hι,hg];exact e2,e3⟩
 have ownB:∀ k b,(mk'.at k).mut=true→C1.ι k=some b→C.w.heap.size≤b∨∃ g,(M.at g).mut=true∧C.ι g=some b∧K.contains g=true:=fun k b hm hi=>by
  rcases hx.own k b hm hi with q|⟨k0,q1,q2⟩
  ·exact .inl q
  ·exact .inr ⟨k0,(mutK k0 q1).2,q2,(mutK k0 q1).1⟩
 have cross:∀ k g' b,K.contains k=true→mk'.at k ≠ .gone→K.contains g'=false→M.at g' ≠ .gone→C1.ι k=some b→C.ι g'=some b→False:=fun k g' b _ hko hg' hgo i1 i2=>by
  rcases ownB k b (hmut k hko) i1 with q|⟨g0,q1,q2,q3⟩
  ·have:=lt hgo i2;omega
  ·have hne:M.at g0 ≠ .gone:=by intro h;rw[h]at q1;cases q1
   have:=hh.inj g0 g' b hne hgo q2 i2
   subst this
   rw[q3]at hg';cases hg'
 refine⟨⟨hx.os,hx.tape,hx.output,hx.size,fun b hb hn=>hx.keep b hb (fun k hm hi=>hn k (mutK k hm).2 hi),fun g b h2 h3=>?_,hx.sS,hx.sN,hx.supS,fun b hb=>?_⟩,⟨fun g=>?_,fun g g' b h2 h3 i1 i2=>?_,fun g b h2 h3 h4=>?_,h1.sdom,h1.ns⟩,RdD.of_S hs⟩
 ·rw[hat]at h2
  rw[hι]at h3
  cases hg:K.contains g with
  | false=>rw[hg]at h2 h3;exact .inr ⟨g,h2,h3⟩
  | true =>
   rw[hg]at h2 h3
   rcases ownB g b h2 h3 with q|⟨g0,q1,q2,_⟩
   ·exact .inl q
   ·exact .inr ⟨g0,q1,q2⟩
 ·rcases hx.supN b hb with q|q|⟨k,q1,q2⟩
  ·exact .inl q
  ·exact .inr (.inl q)
  ·exact .inr (.inr ⟨k,(mutK k q1).2,q2⟩)
 ·rw [hat,hι]
  cases hg:K.contains g with
  | false =>
   by_cases hgo:M.at g = .gone
   ·simp only[hgo];trivial
   ·exact BoxOK.upd (hh.box g) (fun b hb=>keepG g b hg hgo hb) hd hs hx.sS hx.sN
  | true =>
   have hb:=h1.box g
   cases hbx:mk'.at g with
   | gone=>simp only[if_pos];trivial
   | cells frz nw cs =>
    rw[hbx]at hb
    obtain⟨b,e,arr,T,fz,q1,q2,q3,q4,q5⟩:=hb
    simp only[if_pos]
    refine⟨b,e,arr,T,fz,q1,q2,q3,fun j d c hd hc=>?_,q5⟩
    have h4:=q4 j d c hd hc
    refine zf3 (C:=C1) (m:=mk') rfl rfl rfl (fun g' hg'=>?_) h4
    have hgk:K.contains g'=true:=by
     cases hq:K.contains g'
     ·exact absurd (hout' g' hq) (zdk h4 hg')
     ·rfl
    exact⟨by rw[hat,hgk];rfl,by rw[hι,hgk];rfl⟩
   | row ver frz nw sz xs=>rw[hbx]at hb;simp only[if_pos];exact hb
   | mapb kt et es=>rw[hbx]at hb;simp only[if_pos];exact hb
 ·rw [hat]at h2 h3
  rw[hι]at i1 i2
  cases hg:K.contains g with
  | false =>
   cases hg':K.contains g' with
   | false =>
    rw[hg]at h2 i1
    rw[hg']at h3 i2
    exact hh.inj g g' b h2 h3 i1 i2
   | true =>
    rw[hg]at h2 i1
    rw[hg']at h3 i2
    exact(cross g' g b hg' h3 hg h2 i2 i1).elim
  | true =>
   cases hg':K.contains g' with
   | false =>
    rw[hg]at h2 i1
    rw[hg']at h3 i2
    exact(cross g g' b hg h2 hg' h3 i1 i2).elim
   | true =>
    rw[hg]at h2 i1
    rw[hg']at h3 i2
    exact h1.inj g g' b h2 h3 i1 i2
 ·rw [hι]at h3
  have h4:C1.S b:=h4
  rw[hat]at h2
  cases hg:K.contains g with
  | true=>rw[hg]at h2 h3;exact h1.sep g b h2 h3 h4
  | false =>
   rw[hg]at h2 h3
   have hgo:M.at g ≠ .gone:=by intro h;rw[h]at h2;cases h2
   rcases hx.supS b h4 with q|q
   ·exact hh.sep g b h2 h3 q
   ·rcases hx.supN b q with q|q|⟨k0,q1,q2⟩
    ·exact hh.sep g b h2 h3 (hh.ns b q)
    ·have:=lt hgo h3;omega
    ·obtain⟨e1,e3⟩:=mutK k0 q1
     have hne:M.at k0 ≠ .gone:=by intro h;rw[h]at e3;cases e3
     have:=hh.inj k0 g b hne hgo q2 h3
     subst this
     rw[e1]at hg;cases hg
end
def zho : D→List Nat
 | .aggd cs=>cs.filterMap refD
 | .fnd _ cs=>cs.filterMap refD
 | d=>(refD d).toList
theorem zkU {C C':Cf} {m m':Mem} {d:D} {v:Value} (hw:C'.w=C.w) (hS:C'.S=C.S) (hN:C'.N=C.N) (hng:∀ b d',d ≠ .grd b d') (h:∀ g,g∈zho d→m'.at g=m.at g∧C'.ι g=C.ι g) (hr:RdD C m d v):RdD C' m' d v:=by
 cases d with
 | grd b d=>exact absurd rfl (hng b d)
 | aggd cs =>
  obtain⟨vs,e,hl,hall⟩:=hr
  refine⟨vs,e,hl,fun j d c h1 h2=>zf3 hw hS hN (fun g hg=>h g ?_) (hall j d c h1 h2)⟩
  exact List.mem_filterMap.2 ⟨d,List.mem_of_getElem? h1,hg⟩
 | fnd f cs =>
  obtain⟨vs,e,hl,hall⟩:=hr
  refine⟨vs,e,hl,fun j d c h1 h2=>zf3 hw hS hN (fun g hg=>h g ?_) (hall j d c h1 h2)⟩
  exact List.mem_filterMap.2 ⟨d,List.mem_of_getElem? h1,hg⟩
 | _=>exact(zf3 hw hS hN (fun g hg=>h g (by simp only[zho];rw[hg];simp)) hr:RdS C' m' _ v)
def zcE (K:List Nat) (mk:Mem):Bool:=mk.all fun p=>K.contains p.1 && match p.2 with | .cells _ _ cs=>cs.all fun d=>(refD d).all fun g=>K.contains g|_=>true
def mutM (K:List Nat) (mk:Mem):Bool:=mk.all fun p=>K.contains p.1 && match p.2 with | .gone=>true|b=>b.mut
theorem at_mem : ∀ {m:Mem} {g:Nat},m.at g ≠ .gone→(g,m.at g)∈m
 | [],_,h=>absurd rfl h
 | (k,b)::r,g,h=>by
  have e:Mem.at ((k,b)::r) g=if k=g then b else Mem.at r g:=zai _ _ _ _ _
  rw[e]at h ⊢
  by_cases hk:k=g
  ·subst hk;rw[if_pos rfl];exact List.mem_cons_self ..
  ·rw[if_neg hk]at h ⊢;exact List.mem_cons_of_mem _ (at_mem h)
theorem zcr {K:List Nat} {mk:Mem} (h:zcE K mk=true) {g:Nat} (hg:K.contains g=false):mk.at g = .gone:=Classical.byContradiction fun hn=>by
 have:=List.all_eq_true.1 h _ (at_mem hn)
 rw[Bool.and_eq_true]at this
 rw[this.1]at hg;cases hg
theorem zfO {K:List Nat} {mk:Mem} (h:zcE K mk=true) {g:Nat} {frz nw:Bool} {cs:List D} (hg:mk.at g = .cells frz nw cs):∀ d∈cs,inKD K d:=fun d hd g' hr=>by
 have:=List.all_eq_true.1 h _ (at_mem (by rw[hg];simp:mk.at g ≠ .gone))
 rw[Bool.and_eq_true]at this
 have h2:=this.2
 simp only[hg]at h2
 have h3:=List.all_eq_true.1 h2 d hd
 rw[hr]at h3
 simpa using h3
theorem zrt {K:List Nat} {mk:Mem} (h:mutM K mk=true) {g:Nat} (hg:K.contains g=false):mk.at g = .gone:=Classical.byContradiction fun hn=>by
 have:=List.all_eq_true.1 h _ (at_mem hn)
 rw[Bool.and_eq_true]at this
 rw[this.1]at hg;cases hg
theorem zs8 {K:List Nat} {mk:Mem} (h:mutM K mk=true) {g:Nat} (hn:mk.at g ≠ .gone):(mk.at g).mut=true:=by
 have:=List.all_eq_true.1 h _ (at_mem hn)
 rw[Bool.and_eq_true]at this
 have h2:=this.2
 revert h2 hn
 cases mk.at g with
 | gone=>intro hn;exact absurd rfl hn
 | cells frz nw cs=>intro _ h;exact h
 | row ver frz nw sz xs=>intro _ h;exact h
 | mapb kt et es=>intro _ h;exact h
theorem zkV (mk':Mem):∀ K:List Nat,(mixM mk' K).map (·.1)=K
 | []=>rfl
 | g::r=>by show g::(mixM mk' r).map (·.1)=_;rw[zkV mk' r]
def zju : D→Bool
 | .grd _ _=>false
 | _=>true
theorem zgt {d:D} (h:zju d=true):∀ b d',d ≠ .grd b d':=fun b d' e=>by subst e;cases h
section
variable {P : Program} {e : Operand → D} {m : Mem} {dst : Option Tmp} {ty : TypeId} {pos : String} {af : Array Edge} {gd : Option (Nat × Bool)} {x : Operand}
theorem zru {f:FuncId} {ds:List D} {r:D} {mk mk':Mem} {K:List Nat} (hc:FnM P f ds mk r mk') (hsub:K.map mk.at=K.map m.at) (hcl:zcE K mk=true) (hmu:mutM K mk'=true) (hr:zju r=true) (hrK:(zho r).all (fun g=>K.contains g)=true)
  {C:Cf} {m':Mem} {vs:Array Value} (hag:∀ g,K.contains g=true→m'.at g=m.at g) (hm:HoldsM C m') (hl:vs.size=ds.length) (hds:ds.all (fun d=>zju d && (zho d).all fun g=>K.contains g)=true) (hvs:∀ (j:Nat) d v,ds[j]? = some d→vs[j]? = some v→RdD C m' d v) :
  Calls P f vs C.w fun e' w'=>∃ v C',e' = .returned v∧C'.w=w'∧Step C m' C' (mixM mk' K++m')∧RdD C' (mixM mk' K++m') r v:=by
 have hin:∀ g,K.contains g=true→mk.at g=m'.at g:=fun g hg=>by
  rw[hag g hg]
  have hmem:g∈K:=by simpa using hg
  have:∀ l:List Nat,l.map mk.at=l.map m.at→g∈l→mk.at g=m.at g:=by
   intro l
   induction l with
   | nil=>intro _ h;cases h
   | cons a t ih =>
    intro h1 h2
    simp only[List.map_cons,List.cons.injEq]at h1
    rcases List.mem_cons.1 h2 with rfl|h2
    ·exact h1.1
    ·exact ih h1.2 h2
  exact this K hsub hmem
 have hout:∀ g,K.contains g=false→mk.at g = .gone:=fun g hg=>zcr hcl hg
 have hk:HoldsM C mk:=sub_holds hm hin hout (fun g frz nw cs hg=>zfO hcl hg)
 refine(hc.2 C vs hk hl (fun j d v h1 h2=>?_)).mono ?_
 ·have hd:=List.all_eq_true.1 hds d (List.mem_of_getElem? h1)
  rw[Bool.and_eq_true]at hd
  exact zkU rfl rfl rfl (zgt hd.1) (fun g hg=>⟨hin g (List.all_eq_true.1 hd.2 g hg),rfl⟩) (hvs j d v h1 h2)
 ·rintro e' w' ⟨v,C1,rfl,rfl,hst,hrv⟩
  refine⟨v,mixC K C C1,rfl,rfl,ziw hm hin hout (fun g hg=>zrt hmu hg) (fun g hg=>zs8 hmu hg) hst,?_⟩
  refine zkU (C:=C1) (m:=mk') rfl rfl rfl (zgt hr) (fun g hg=>?_) hrv
  have hgk:=List.all_eq_true.1 hrK g hg
  exact⟨by rw[zhn,hgk];rfl,by show(if K.contains g then C1.ι g else C.ι g)=_;rw[hgk];rfl⟩
end
section
variable {P : Program} {e : Operand → D} {m : Mem} {dst : Option Tmp} {ty : TypeId} {pos : String} {af : Array Edge} {gd : Option (Nat × Bool)} {x : Operand}
def zt2 (cs:List D):Bool:=cs.all fun d=>match d with | .ptr _ _=>true|_=>false
theorem zpG {f:FuncId} {caps:Array Operand} {cs:List D} (h:caps.toList.map e=cs) (hp:zt2 cs=true) :
  SStep P ⟨dst,.makeFunc (.func f) #[] caps,ty,pos,af,gd⟩ e m [] (.fnd f cs) [] :=
 .pure fun C m' a ha hm hx=>by
  refine⟨.func (.func f) #[] (caps.map a.eval),by simp[execOp,Instr.makeFunc],caps.map a.eval,rfl,by rw[←h];simp,fun j d c h1 h2=>?_⟩
  simp only[Array.getElem?_map,Option.map_eq_some_iff]at h2
  obtain⟨o,ho,rfl⟩:=h2
  have ho':(caps.toList.map e)[j]? = some (e o):=by simp[ho]
  rw[h,h1]at ho'
  injection ho' with ho'
  have hr:=hx o (by simp only[Op.operands];exact Array.mem_append.2 (.inr (Array.mem_of_getElem? ho)))
  have hd:=List.all_eq_true.1 hp d (List.mem_of_getElem? h1)
  subst ho'
  cases hq:e o with
  | ptr g off=>rw[hq]at hr;exact hr
  | _=>rw[hq]at hd;cases hd
theorem zgu {f:FuncId} {cs:List D} {args:Array Operand} {ats:Array TypeId} {ds:List D} {r:D} {mk mk':Mem} (K:List Nat) (hf:e x = .fnd f cs) (hc:FnM P f (ds++cs) mk r mk') (ha:args.toList.map e=ds) (hsub:K.map mk.at=K.map m.at) (hcl:zcE K mk=true) (hmu:mutM K mk'=true)
  (hr:zju r=true) (hrK:(zho r).all (fun g=>K.contains g)=true) (hds:(ds++cs).all (fun d=>zju d && (zho d).all fun g=>K.contains g)=true) :
  SStep P ⟨dst,.call { callee := .value x,args:=args,argTypes:=ats },ty,pos,af,gd⟩ e m [] r (mixM mk' K):=by
 intro C m' a next Q hag hm hx hn
 have hxf:=hx x (by simp[Op.operands,Call.operands])
 rw[hf]at hxf
 obtain⟨us,hv,hl,hall⟩:=hxf
 have hrun:(execOp a.eval ⟨dst,.call { callee := .value x,args:=args,argTypes:=ats },ty,pos,af,gd⟩).run P C.w = .ok (.enter f (args.map a.eval++us)) C.w:=by
  simp only[execOp,resolve,hv,Deferred.ofValue,Sem.run_bind,Sem.run_pure,Result.andThen_ok,invoke,za6 hc.1]
  simp
 unfold Oper.wp
 rw[hrun]
 show Calls P f (args.map a.eval++us) C.w _
 have hal:args.size=ds.length:=by rw[←ha];simp
 refine(zru hc hsub hcl hmu hr hrK (fun g hg=>hag g (.inr (by rw[zkV];simpa using hg))) hm (by simp[hal,hl]) hds (fun j d v hd hv=>?_)).mono ?_
 ·by_cases hj:j<ds.length
  ·rw[List.getElem?_append_left hj]at hd
   rw[Array.getElem?_append_left (by simp;omega)]at hv
   simp only[Array.getElem?_map,Option.map_eq_some_iff]at hv
   obtain⟨o,ho,rfl⟩:=hv
   have ho':(args.toList.map e)[j]? = some (e o):=by simp[ho]
   rw[ha,hd]at ho'
   injection ho' with ho'
   rw[ho']
   exact hx o (by simp only[Op.operands,Call.operands];exact Array.mem_append.2 (.inr (Array.mem_of_getElem? ho)))
  ·rw[List.getElem?_append_right (by omega)]at hd
   rw[Array.getElem?_append_right (by simp;omega)]at hv
   have:(args.map a.eval).size=ds.length:=by simp[hal]
   rw[this]at hv
   exact(hall _ d v hd hv).rd
 ·rintro e' w' ⟨v,C',rfl,rfl,h1,h2⟩
  exact hn v C' h1 h2
end
def endM (P:Program) (res:List ResultVar) (r:V) (m':Mem):Exit→St→Prop
 | .normal,s=>(∃ xs,RetOK P s res xs∧pack xs=r)∧∀ g,s.mem.at g=m'.at g
 | .ret,s=>(∃ xs,RetOK P s res xs∧pack xs=r)∧∀ g,s.mem.at g=m'.at g
 | _,_=>False
theorem zez {P : Program} {f : FuncId} {fn : Func} {c : Code} {ds : List D} {m m' : Mem} {r : V} (hf : P.funcs[f]? = some fn) (hb : fn.body = some c) (hn : Nat.ble ds.length fn.ntmps = true) (hname : (fn.name == "runtime.NumGoroutine") = false)
  (h:DWS P c (endM P fn.results.toList r m') ⟨envD 0 ds,m,fn.ntmps⟩):FnM P f ds m (.dat true r) m':=by
 refine⟨⟨fn,hf,by rw[hb];rfl,hname⟩,?_⟩
 intro C vs hh hl hr
 refine calls_of_wp hf hb ?_
 have h0:Holds C ⟨envD 0 ds,m,fn.ntmps⟩ ⟨vs++Array.replicate (fn.ntmps-vs.size) undef,[]⟩:=by
  refine⟨hh,rfl,by simp;have:=Nat.le_of_ble_eq_true hn;omega,fun t=>?_⟩
  show RdD C m (Env.at (envD 0 ds) t) _
  rw[ziT,if_pos (Nat.zero_le _),Nat.sub_zero]
  cases hd:ds[t]? with
  | none=>exact trivial
  | some d =>
   have hlt:t<vs.size:=by rw[hl];exact(List.getElem?_eq_some_iff.1 hd).1
   have hv:vs[t]? = some vs[t]:=Array.getElem?_eq_getElem hlt
   have:(vs++Array.replicate (fn.ntmps-vs.size) undef).getD t undef=vs[t]:=by
    rw[Array.getD_eq_getD_getElem?,Array.getElem?_append_left hlt,hv];rfl
   rw[this]
   exact hr t d _ hd hv
 refine Code.wp_mono ?_ (h _ _ h0)
 rintro e a' w' ⟨C',s',rfl,hq,h',hx⟩
 have fin:((∃ xs,RetOK P s' fn.results.toList xs∧pack xs=r)∧∀ g,s'.mem.at g=m'.at g)→a'.defers=[]∧∃ v,(results fn a'.tmps).run P C'.w = .ok v C'.w∧∃ v' C1,Ending.returned v = .returned v'∧C1.w=C'.w∧Step C m C1 m'∧RdD C1 m' (.dat true r) v':=by
  rintro⟨⟨xs,hro,rfl⟩,hm⟩
  obtain⟨us,l1,l2,r1,r2⟩:=zmo h' hro
  refine⟨h'.defers,_,zbR us l1 r1,_,C',rfl,rfl,zcM (fun _=>rfl) hm hx,?_⟩
  exact zgk (n:=true) (by omega) r2
 cases e with
 | normal=>exact fin hq
 | ret=>exact fin hq
 | _=>exact hq.elim
theorem zrv {C C':Cf} {m m1 m':Mem} {d:D} {v:Value} (h0:RdS C m d v) (h1:RdS C' m1 d v) (hk:∀ g,m.at g ≠ .gone→m'.at g=m1.at g):RdS C' m' d v :=
 zf3 rfl rfl rfl (fun g hg=>⟨hk g (zdk h0 hg),rfl⟩) h1
theorem zrw {C C':Cf} {m m1 m':Mem} (hk:∀ g,m.at g ≠ .gone→m'.at g=m1.at g) (hs:∀ d v,RdD C m d v→RdD C' m1 d v):∀ d v,RdD C m d v→RdD C' m' d v:=by
 have hS:∀ d v,RdS C m d v→RdS C' m' d v:=fun d v h=>by
  have h1:=hs d v h.rd
  exact zrv h (zmT h1 (fun b d' e=>by subst e;exact h.elim) (fun cs e=>by subst e;exact h.elim) (fun f cs e=>by subst e;exact h.elim)) hk
 exact RdD.of_S hS
theorem zpH {C C1:Cf} {mk m1 m':Mem} {K:List Nat} (h:Step C mk C1 m1) (hK:zcE K mk=true) (hK':zcE K m'=true) (he:∀ g,K.contains g=true→m1.at g=m'.at g):Step C mk C1 m':=by
 have hx:=h.ext
 have hmk:∀ g,mk.at g ≠ .gone→m'.at g=m1.at g:=fun g hg=>by
  cases hc:K.contains g
  ·exact absurd (zcr hK hc) hg
  ·exact(he g hc).symm
 have hm':∀ g,m'.at g ≠ .gone→m'.at g=m1.at g:=fun g hg=>by
  cases hc:K.contains g
  ·exact absurd (zcr hK' hc) hg
  ·exact(he g hc).symm
 refine⟨⟨hx.os,hx.tape,hx.output,hx.size,hx.keep,fun g b hm hi=>hx.own g b (by
  have hne:m'.at g ≠ .gone:=by intro e;rw[e]at hm;cases hm
  rw[←hm' g hne];exact hm) hi,hx.sS,hx.sN,hx.supS,hx.supN⟩,sub_holds h.holds (fun g hg=>(he g hg).symm) (fun g hg=>zcr hK' hg) (fun g frz nw cs hg=>zfO hK' hg),zrw hmk h.slot⟩
def endK (P:Program) (res:List ResultVar) (r:V) (K:List Nat) (m':Mem):Exit→St→Prop
 | .normal,s=>(∃ xs,RetOK P s res xs∧pack xs=r)∧K.map s.mem.at=K.map m'.at
 | .ret,s=>(∃ xs,RetOK P s res xs∧pack xs=r)∧K.map s.mem.at=K.map m'.at
 | _,_=>False
theorem ztM {P:Program} {res:List ResultVar} {r:V} {K:List Nat} {m':Mem} {s:St} {xs:List V} (h:RetOK P s res xs) (he:pack xs=r) (hm:K.map s.mem.at=K.map m'.at):endK P res r K m' .normal s:=⟨⟨xs,h,he⟩,hm⟩
theorem zs9 {P : Program} {f : FuncId} {fn : Func} {c : Code} {ds : List D} {m m' : Mem} {r : V} (K : List Nat) (hf : P.funcs[f]? = some fn) (hb : fn.body = some c) (hn : Nat.ble ds.length fn.ntmps = true) (hname : (fn.name == "runtime.NumGoroutine") = false)
  (hK:zcE K m=true) (hK':zcE K m'=true) (h:DWS P c (endK P fn.results.toList r K m') ⟨envD 0 ds,m,fn.ntmps⟩):FnM P f ds m (.dat true r) m':=by
 refine⟨⟨fn,hf,by rw[hb];rfl,hname⟩,?_⟩
 intro C vs hh hl hr
 refine calls_of_wp hf hb ?_
 have h0:Holds C ⟨envD 0 ds,m,fn.ntmps⟩ ⟨vs++Array.replicate (fn.ntmps-vs.size) undef,[]⟩:=by
  refine⟨hh,rfl,by simp;have:=Nat.le_of_ble_eq_true hn;omega,fun t=>?_⟩
  show RdD C m (Env.at (envD 0 ds) t) _
  rw[ziT,if_pos (Nat.zero_le _),Nat.sub_zero]
  cases hd:ds[t]? with
  | none=>exact trivial
  | some d =>
   have hlt:t<vs.size:=by rw[hl];exact(List.getElem?_eq_some_iff.1 hd).1
   have hv:vs[t]? = some vs[t]:=Array.getElem?_eq_getElem hlt
   have:(vs++Array.replicate (fn.ntmps-vs.size) undef).getD t undef=vs[t]:=by
    rw[Array.getD_eq_getD_getElem?,Array.getElem?_append_left hlt,hv];rfl
   rw[this]
   exact hr t d _ hd hv
 refine Code.wp_mono ?_ (h _ _ h0)
 rintro e a' w' ⟨C',s',rfl,hq,h',hx⟩
 have fin:((∃ xs,RetOK P s' fn.results.toList xs∧pack xs=r)∧K.map s'.mem.at=K.map m'.at)→a'.defers=[]∧∃ v,(results fn a'.tmps).run P C'.w = .ok v C'.w∧∃ v' C1,Ending.returned v = .returned v'∧C1.w=C'.w∧Step C m C1 m'∧RdD C1 m' (.dat true r) v':=by
  rintro⟨⟨xs,hro,rfl⟩,hm⟩
  obtain⟨us,l1,l2,r1,r2⟩:=zmo h' hro
  refine⟨h'.defers,_,zbR us l1 r1,_,C',rfl,rfl,zpH hx hK hK' (fun g hg=>?_),?_⟩
  ·have hmem:g∈K:=by simpa using hg
   exact List.map_inj_left.1 hm g hmem
  ·exact zgk (n:=true) (by omega) r2
 cases e with
 | normal=>exact fin hq
 | ret=>exact fin hq
 | _=>exact hq.elim
end Go.Proofs.YtcdhlofhhcgohaaGreat
