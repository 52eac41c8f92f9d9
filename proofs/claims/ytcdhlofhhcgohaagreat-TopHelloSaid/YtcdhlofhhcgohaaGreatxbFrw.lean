/- A call in the caller's memory, of which only a few boxes turn: told by those alone. Cells read as other ones. -/
import Derived.Test.YtcdhlofhhcgohaaGreatxbNst
namespace Go.Proofs.YtcdhlofhhcgohaaGreat
open Go.RowKit
def FnM (P:Program) (f:FuncId) (ds:List D) (mk:Mem) (r:D) (mk':Mem):Prop:=Callable P f ∧
 ∀ (C:Cf) (vs:Array Value),HoldsM C mk→vs.size=ds.length→(∀ (j:Nat) d v,ds[j]? = some d→vs[j]? = some v→RdD C mk d v) →
  Calls P f vs C.w fun e w'=>∃ v C',e = .returned v∧C'.w=w'∧Step C mk C' mk'∧RdD C' mk' r v
def mixC (K:List Nat) (C C1:Cf):Cf := { C1 with ι:=fun g=>if K.contains g then C1.ι g else C.ι g }
def mixM (mk':Mem):List Nat→Mem
 | []=>[]
 | g::r=>(g,mk'.at g)::mixM mk' r
theorem mixM_at {mk' M:Mem} (g:Nat):∀ K:List Nat,Mem.at (mixM mk' K++M) g=if K.contains g then mk'.at g else M.at g
 | []=>rfl
 | k::r=>by
  show look _ ((k,_)::(mixM mk' r++M)) g=_
  rw[look_cons]
  by_cases h:k=g
  ·subst h;rw[if_pos rfl];simp
  ·rw[if_neg h]
   have ih:=mixM_at (mk':=mk') (M:=M) g r
   unfold Mem.at at ih ⊢
   rw[ih]
   have:(k::r).contains g=r.contains g:=by
    simp only[List.contains_cons]
    have:(g == k)=false:=by simp;exact fun e=>h e.symm
    rw[this];rfl
   rw[this]
def refD : D→Option Nat
 | .own g _ _ _=>some g
 | .ptr g _=>some g
 | .rptr g _ _ _=>some g
 | .mp g=>some g
 | .sl g _=>some g
 | _=>none
def inKD (K:List Nat) (d:D):Prop:=∀ g,refD d=some g→K.contains g=true
theorem RdS_to {C C':Cf} {m m':Mem} {d:D} {v:Value} (hw:C'.w=C.w) (hS:C'.S=C.S) (hN:C'.N=C.N) (h:∀ g,refD d=some g→m'.at g=m.at g∧C'.ι g=C.ι g) (hr:RdS C m d v):RdS C' m' d v:=by
 have hD:∀ n,C'.D n=C.D n:=fun n=>by unfold Cf.D;rw[hS,hN]
 cases d with
 | any=>trivial
 | nil=>exact hr
 | grd b d=>exact hr.elim
 | aggd cs=>exact hr.elim
 | fnd _ _=>exact hr.elim
 | dat n x =>
  have hr:Rd (C.D n) C.w x v:=hr
  show Rd (C'.D n) C'.w x v
  rw[hD,hw];exact hr
 | own g ver lo len =>
  obtain⟨e1,e2⟩:=h g rfl
  obtain⟨ver',frz,nw,sz,xs,p1,p2,p3,p4⟩:=hr
  refine⟨ver',frz,nw,sz,xs,e1.trans p1,p2,p3,fun hv=>?_⟩
  rw[hw,e2];exact p4 hv
 | ptr g off =>
  obtain⟨e1,e2⟩:=h g rfl
  obtain⟨frz,nw,cs,b,p1,p2,p3⟩:=hr
  exact⟨frz,nw,cs,b,e1.trans p1,e2.trans p2,p3⟩
 | rptr g ver i off =>
  obtain⟨e1,e2⟩:=h g rfl
  obtain⟨ver',frz,nw,sz,xs,p1,p2,p3,p4⟩:=hr
  refine⟨ver',frz,nw,sz,xs,e1.trans p1,p2,p3,fun hv=>?_⟩
  obtain⟨q1,b,q2,q3⟩:=p4 hv
  exact⟨q1,b,e2.trans q2,q3⟩
 | mp g =>
  obtain⟨e1,e2⟩:=h g rfl
  obtain⟨kt,et,es,b,p1,p2,p3⟩:=hr
  exact⟨kt,et,es,b,e1.trans p1,e2.trans p2,p3⟩
 | sl g n =>
  obtain⟨e1,e2⟩:=h g rfl
  obtain⟨frz,nw,cs,b,cap,p1,p2,p3⟩:=hr
  exact⟨frz,nw,cs,b,cap,e1.trans p1,e2.trans p2,p3⟩
theorem RdS_back {C:Cf} {m:Mem} {d:D} {v:Value} (h:RdD C m d v) (hn:∀ b d',d ≠ .grd b d') (hn2:∀ cs,d ≠ .aggd cs) (hn3:∀ f cs,d ≠ .fnd f cs):RdS C m d v:=by
 cases d<;>first|exact h|exact absurd rfl (hn _ _)|exact absurd rfl (hn2 _)|exact absurd rfl (hn3 _ _)
theorem RdS_live {C:Cf} {m:Mem} {d:D} {v:Value} (h:RdS C m d v) {g:Nat} (hg:refD d=some g):m.at g ≠ .gone:=by
 intro e
 cases d with
 | own g' ver lo len=>injection hg with hg;subst hg;obtain⟨_,_,_,_,_,q,_⟩:=h;rw[e]at q;cases q
 | ptr g' off=>injection hg with hg;subst hg;obtain⟨_,_,_,_,q,_⟩:=h;rw[e]at q;cases q
 | rptr g' ver i off=>injection hg with hg;subst hg;obtain⟨_,_,_,_,_,q,_⟩:=h;rw[e]at q;cases q
 | mp g'=>injection hg with hg;subst hg;obtain⟨_,_,_,_,q,_⟩:=h;rw[e]at q;cases q
 | sl g' n=>injection hg with hg;subst hg;obtain⟨_,_,_,_,_,q,_⟩:=h;rw[e]at q;cases q
 | any=>cases hg
 | nil=>cases hg
 | grd b d=>cases hg
 | dat n x=>cases hg
 | aggd cs=>cases hg
 | fnd _ _=>cases hg
section
variable {C C1 : Cf} {M mk mk' : Mem} {K : List Nat}
theorem sub_holds (hh:HoldsM C M) (hin:∀ g,K.contains g=true→mk.at g=M.at g) (hout:∀ g,K.contains g=false→mk.at g = .gone)
  (hcl:∀ g frz nw cs,mk.at g = .cells frz nw cs→∀ d∈cs,inKD K d):HoldsM C mk:=by
 have hat:∀ g,mk.at g ≠ .gone→mk.at g=M.at g:=fun g h=>by
  cases hk:K.contains g
  ·exact absurd (hout g hk) h
  ·exact hin g hk
 refine⟨fun g=>?_,fun g g' b h1 h2=>hh.inj g g' b (by rw[←hat g h1];exact h1) (by rw[←hat g' h2];exact h2),fun g b hm=>?_,hh.sdom,hh.ns⟩
 ·by_cases hg:mk.at g = .gone
  ·rw[hg];trivial
  ·have hb:=hh.box g
   rw[←hat g hg]at hb
   cases hbx:mk.at g with
   | gone=>trivial
   | cells frz nw cs =>
    rw[hbx]at hb
    obtain⟨b,e,arr,T,fz,q1,q2,q3,q4,q5⟩:=hb
    refine⟨b,e,arr,T,fz,q1,q2,q3,fun j d c hd hc=>RdS_to rfl rfl rfl (fun g' hg'=>⟨?_,rfl⟩) (q4 j d c hd hc),q5⟩
    exact hin g' (hcl g frz nw cs hbx d (List.mem_of_getElem? hd) g' hg')
   | row ver frz nw sz xs=>rw[hbx]at hb;exact hb
   | mapb kt et es=>rw[hbx]at hb;exact hb
 ·have hne:mk.at g ≠ .gone:=by intro e;rw[e]at hm;cases hm
  rw[hat g hne]at hm
  exact hh.sep g b hm
theorem frame_step (hh:HoldsM C M) (hin:∀ g,K.contains g=true→mk.at g=M.at g) (hout:∀ g,K.contains g=false→mk.at g = .gone) (hout':∀ g,K.contains g=false→mk'.at g = .gone) (hmut:∀ g,mk'.at g ≠ .gone→(mk'.at g).mut=true)
  (hst:Step C mk C1 mk'):Step C M (mixC K C C1) (mixM mk' K++M):=by
 have hx:=hst.ext
 have h1:=hst.holds
 have hslot:=hst.slot
 have hat:=mixM_at (mk':=mk') (M:=M)
 have hι:∀ g,(mixC K C C1).ι g=if K.contains g then C1.ι g else C.ι g:=fun _=>rfl
 have lt:∀ {g b},M.at g ≠ .gone→C.ι g=some b→b<C.w.heap.size:=fun h i=>BoxOK.lt hh h i
 have mutK:∀ k,(mk.at k).mut=true→K.contains k=true∧(M.at k).mut=true:=fun k hm=>by
  cases hk:K.contains k
  ·rw[hout k hk]at hm;cases hm
  ·exact⟨rfl,by rw[←hin k hk];exact hm⟩
 have keepS:∀ b,C.S b→C1.w.heap[b]? = C.w.heap[b]? := fun b hb=>hx.keep b (hh.sdom b hb) (fun k hm hi=>hh.sep k b (mutK k hm).2 hi hb)
 have keepG:∀ g b,K.contains g=false→M.at g ≠ .gone→C.ι g=some b→C1.w.heap[b]? = C.w.heap[b]? := fun g b hg hgo hi=>hx.keep b (lt hgo hi) (fun k hm hik=>by
  obtain⟨hk,mu⟩:=mutK k hm
  have:M.at k ≠ .gone:=by intro h;rw[h]at mu;cases mu
  have:=hh.inj k g b this hgo hik hi
  subst this
  rw[hk]at hg;cases hg)
 have hd:∀ n x v,RdF C n x v→RdF (mixC K C C1) n x v:=fun n x v h=>by
  cases n
  ·exact Rd.mono h hx.sS keepS
  ·exact Rd.mono h hx.sN (fun b hb=>keepS b (hh.ns b hb))
 have hs:∀ d v,RdS C M d v→RdS (mixC K C C1) (mixM mk' K++M) d v:=by
  intro d v h
  by_cases hk:∃ g,refD d=some g∧K.contains g=true
  ·obtain⟨g,hg,hgk⟩:=hk
   have h2:RdS C mk d v:=RdS_to rfl rfl rfl (fun g' hg'=>⟨by rw[hg]at hg';injection hg' with hg';subst hg';exact hin g hgk,rfl⟩) h
   have h3:RdS C1 mk' d v:=RdS_back (hslot d v h2.rd) (fun b d' e=>by subst e;exact h.elim) (fun cs e=>by subst e;exact h.elim) (fun f cs e=>by subst e;exact h.elim)
   exact RdS_to (C:=C1) (m:=mk') rfl rfl rfl (fun g' hg'=>by
    rw[hg]at hg';injection hg' with hg';subst hg'
    exact⟨by rw[hat,hgk];rfl,by rw[hι,hgk];rfl⟩) h3
  ·have hout2:∀ g,refD d=some g→K.contains g=false:=fun g hg=>Bool.eq_false_iff.2 fun hc=>hk ⟨g,hg,hc⟩
   have hgo:∀ g,refD d=some g→M.at g ≠ .gone:=fun g hg=>RdS_live h hg
   cases d with
   | any=>trivial
   | nil=>exact h
   | grd b d=>exact h.elim
   | aggd cs=>exact h.elim
   | fnd _ _=>exact h.elim
   | dat n x=>exact hd n x v h
   | own g ver lo len =>
    obtain⟨ver',frz,nw,sz,xs,e1,e2,e3,e4⟩:=h
    have hg:=hout2 g rfl
    refine⟨ver',frz,nw,sz,xs,by rw[hat,hg];exact e1,e2,e3,fun hv=>?_⟩
    obtain⟨q1,q2⟩:=e4 hv
    refine⟨q1,?_⟩
    rw[hι,hg]
    show OwnV C1.w sz (C.ι g) lo len v
    unfold OwnV at *
    cases hi:C.ι g with
    | none=>simp only[hi]at q2 ⊢;exact q2
    | some b =>
     simp only[hi]at q2 ⊢
     obtain⟨cap,arr,T',fz,p1,p2,p3⟩:=q2
     exact⟨cap,arr,T',fz,p1,(keepG g b hg (hgo g rfl) hi).trans p2,p3⟩
   | ptr g off =>
    obtain⟨frz,nw,cs,b,e1,e2,e3⟩:=h
    have hg:=hout2 g rfl
    exact⟨frz,nw,cs,b,by rw[hat,hg];exact e1,by rw[hι,hg];exact e2,e3⟩
   | rptr g ver i off =>
    obtain⟨ver',frz,nw,sz,xs,e1,e2,e3,e4⟩:=h
    have hg:=hout2 g rfl
    refine⟨ver',frz,nw,sz,xs,by rw[hat,hg];exact e1,e2,e3,fun hv=>?_⟩
    obtain⟨q1,b,q2,q3⟩:=e4 hv
    exact⟨q1,b,by rw[hι,hg];exact q2,q3⟩
   | mp g =>
    obtain⟨kt,et,es,b,e1,e2,e3⟩:=h
    have hg:=hout2 g rfl
    exact⟨kt,et,es,b,by rw[hat,hg];exact e1,by rw[hι,hg];exact e2,e3⟩
   | sl g n =>
    obtain⟨frz,nw,cs,b,cap,e1,e2,e3⟩:=h
    have hg:=hout2 g rfl
    exact⟨frz,nw,cs,b,cap,by rw[hat,hg];exact e1,by rw[hι,hg];exact e2,e3⟩
 have ownB:∀ k b,(mk'.at k).mut=true→C1.ι k=some b→C.w.heap.size≤b∨∃ g,(M.at g).mut=true∧C.ι g=some b∧K.contains g=true:=fun k b hm hi=>by
  rcases hx.own k b hm hi with q|⟨k0,q1,q2⟩
  ·exact .inl q
  ·exact .inr ⟨k0,(mutK k0 q1).2,q2,(mutK k0 q1).1⟩
 have cross:∀ k g' b,K.contains k=true→mk'.at k ≠ .gone→K.contains g'=false→M.at g' ≠ .gone→C1.ι k=some b→C.ι g'=some b→False:=fun k g' b _ hko hg' hgo i1 i2=>by
  rcases ownB k b (hmut k hko) i1 with q|⟨g0,q1,q2,q3⟩
  ·have:=lt hgo i2;omega
  ·have hne:M.at g0 ≠ .gone:=by intro h;rw[h]at q1;cases q1
   have:=hh.inj g0 g' b hne hgo q2 i2
   subst this
   rw[q3]at hg';cases hg'
 refine⟨⟨hx.os,hx.tape,hx.output,hx.size,fun b hb hn=>hx.keep b hb (fun k hm hi=>hn k (mutK k hm).2 hi),fun g b h2 h3=>?_,hx.sS,hx.sN,hx.supS,fun b hb=>?_⟩,⟨fun g=>?_,fun g g' b h2 h3 i1 i2=>?_,fun g b h2 h3 h4=>?_,h1.sdom,h1.ns⟩,RdD.of_S hs⟩
 ·rw[hat]at h2
  rw[hι]at h3
  cases hg:K.contains g with
  | false=>rw[hg]at h2 h3;exact .inr ⟨g,h2,h3⟩
  | true =>
   rw[hg]at h2 h3
   rcases ownB g b h2 h3 with q|⟨g0,q1,q2,_⟩
   ·exact .inl q
   ·exact .inr ⟨g0,q1,q2⟩
 ·rcases hx.supN b hb with q|q|⟨k,q1,q2⟩
  ·exact .inl q
  ·exact .inr (.inl q)
  ·exact .inr (.inr ⟨k,(mutK k q1).2,q2⟩)
 ·rw [hat,hι]
  cases hg:K.contains g with
  | false =>
   by_cases hgo:M.at g = .gone
   ·simp only[hgo];trivial
   ·exact BoxOK.upd (hh.box g) (fun b hb=>keepG g b hg hgo hb) hd hs hx.sS hx.sN
  | true =>
   have hb:=h1.box g
   cases hbx:mk'.at g with
   | gone=>simp only[if_pos];trivial
   | cells frz nw cs =>
    rw[hbx]at hb
    obtain⟨b,e,arr,T,fz,q1,q2,q3,q4,q5⟩:=hb
    simp only[if_pos]
    refine⟨b,e,arr,T,fz,q1,q2,q3,fun j d c hd hc=>?_,q5⟩
    have h4:=q4 j d c hd hc
    refine RdS_to (C:=C1) (m:=mk') rfl rfl rfl (fun g' hg'=>?_) h4
    have hgk:K.contains g'=true:=by
     cases hq:K.contains g'
     ·exact absurd (hout' g' hq) (RdS_live h4 hg')
     ·rfl
    exact⟨by rw[hat,hgk];rfl,by rw[hι,hgk];rfl⟩
   | row ver frz nw sz xs=>rw[hbx]at hb;simp only[if_pos];exact hb
   | mapb kt et es=>rw[hbx]at hb;simp only[if_pos];exact hb
 ·rw [hat]at h2 h3
  rw[hι]at i1 i2
  cases hg:K.contains g with
  | false =>
   cases hg':K.contains g' with
   | false =>
    rw[hg]at h2 i1
    rw[hg']at h3 i2
    exact hh.inj g g' b h2 h3 i1 i2
   | true =>
    rw[hg]at h2 i1
    rw[hg']at h3 i2
    exact(cross g' g b hg' h3 hg h2 i2 i1).elim
  | true =>
   cases hg':K.contains g' with
   | false =>
    rw[hg]at h2 i1
    rw[hg']at h3 i2
    exact(cross g g' b hg h2 hg' h3 i1 i2).elim
   | true =>
    rw[hg]at h2 i1
    rw[hg']at h3 i2
    exact h1.inj g g' b h2 h3 i1 i2
 ·rw [hι]at h3
  have h4:C1.S b:=h4
  rw[hat]at h2
  cases hg:K.contains g with
  | true=>rw[hg]at h2 h3;exact h1.sep g b h2 h3 h4
  | false =>
   rw[hg]at h2 h3
   have hgo:M.at g ≠ .gone:=by intro h;rw[h]at h2;cases h2
   rcases hx.supS b h4 with q|q
   ·exact hh.sep g b h2 h3 q
   ·rcases hx.supN b q with q|q|⟨k0,q1,q2⟩
    ·exact hh.sep g b h2 h3 (hh.ns b q)
    ·have:=lt hgo h3;omega
    ·obtain⟨e1,e3⟩:=mutK k0 q1
     have hne:M.at k0 ≠ .gone:=by intro h;rw[h]at e3;cases e3
     have:=hh.inj k0 g b hne hgo q2 h3
     subst this
     rw[e1]at hg;cases hg
end
def refsK : D→List Nat
 | .aggd cs=>cs.filterMap refD
 | .fnd _ cs=>cs.filterMap refD
 | d=>(refD d).toList
theorem RdD_to {C C':Cf} {m m':Mem} {d:D} {v:Value} (hw:C'.w=C.w) (hS:C'.S=C.S) (hN:C'.N=C.N) (hng:∀ b d',d ≠ .grd b d') (h:∀ g,g∈refsK d→m'.at g=m.at g∧C'.ι g=C.ι g) (hr:RdD C m d v):RdD C' m' d v:=by
 cases d with
 | grd b d=>exact absurd rfl (hng b d)
 | aggd cs =>
  obtain⟨vs,e,hl,hall⟩:=hr
  refine⟨vs,e,hl,fun j d c h1 h2=>RdS_to hw hS hN (fun g hg=>h g ?_) (hall j d c h1 h2)⟩
  exact List.mem_filterMap.2 ⟨d,List.mem_of_getElem? h1,hg⟩
 | fnd f cs =>
  obtain⟨vs,e,hl,hall⟩:=hr
  refine⟨vs,e,hl,fun j d c h1 h2=>RdS_to hw hS hN (fun g hg=>h g ?_) (hall j d c h1 h2)⟩
  exact List.mem_filterMap.2 ⟨d,List.mem_of_getElem? h1,hg⟩
 | _=>exact(RdS_to hw hS hN (fun g hg=>h g (by simp only[refsK];rw[hg];simp)) hr:RdS C' m' _ v)
def closedM (K:List Nat) (mk:Mem):Bool:=mk.all fun p=>K.contains p.1 && match p.2 with | .cells _ _ cs=>cs.all fun d=>(refD d).all fun g=>K.contains g|_=>true
theorem at_mem : ∀ {m:Mem} {g:Nat},m.at g ≠ .gone→(g,m.at g)∈m
 | [],_,h=>absurd rfl h
 | (k,b)::r,g,h=>by
  have e:Mem.at ((k,b)::r) g=if k=g then b else Mem.at r g:=look_cons _ _ _ _ _
  rw[e]at h ⊢
  by_cases hk:k=g
  ·subst hk;rw[if_pos rfl];exact List.mem_cons_self ..
  ·rw[if_neg hk]at h ⊢;exact List.mem_cons_of_mem _ (at_mem h)
theorem closedM_out {K:List Nat} {mk:Mem} (h:closedM K mk=true) {g:Nat} (hg:K.contains g=false):mk.at g = .gone:=Classical.byContradiction fun hn=>by
 have:=List.all_eq_true.1 h _ (at_mem hn)
 rw[Bool.and_eq_true]at this
 rw[this.1]at hg;cases hg
theorem closedM_in {K:List Nat} {mk:Mem} (h:closedM K mk=true) {g:Nat} {frz nw:Bool} {cs:List D} (hg:mk.at g = .cells frz nw cs):∀ d∈cs,inKD K d:=fun d hd g' hr=>by
 have:=List.all_eq_true.1 h _ (at_mem (by rw[hg];simp:mk.at g ≠ .gone))
 rw[Bool.and_eq_true]at this
 have h2:=this.2
 simp only[hg]at h2
 have h3:=List.all_eq_true.1 h2 d hd
 rw[hr]at h3
 simpa using h3
def noGrd : D→Bool
 | .grd _ _=>false
 | _=>true
theorem noGrd_ok {d:D} (h:noGrd d=true):∀ b d',d ≠ .grd b d':=fun b d' e=>by subst e;cases h
section
variable {P : Program} {e : Operand → D} {m : Mem} {dst : Option Tmp} {ty : TypeId} {pos : String} {af : Array Edge} {gd : Option (Nat × Bool)} {x : Operand}
end
section
variable {P : Program} {e : Operand → D} {m : Mem} {dst : Option Tmp} {ty : TypeId} {pos : String} {af : Array Edge} {gd : Option (Nat × Bool)} {x : Operand}
end
def endM (P:Program) (res:List ResultVar) (r:V) (m':Mem):Exit→St→Prop
 | .normal,s=>(∃ xs,RetOK P s res xs∧pack xs=r)∧∀ g,s.mem.at g=m'.at g
 | .ret,s=>(∃ xs,RetOK P s res xs∧pack xs=r)∧∀ g,s.mem.at g=m'.at g
 | _,_=>False
theorem fnM_of {P : Program} {f : FuncId} {fn : Func} {c : Code} {ds : List D} {m m' : Mem} {r : V} (hf : P.funcs[f]? = some fn) (hb : fn.body = some c) (hn : Nat.ble ds.length fn.ntmps = true) (hname : (fn.name == "runtime.NumGoroutine") = false)
  (h:DWS P c (endM P fn.results.toList r m') ⟨envD 0 ds,m,fn.ntmps⟩):FnM P f ds m (.dat true r) m':=by
 refine⟨⟨fn,hf,by rw[hb];rfl,hname⟩,?_⟩
 intro C vs hh hl hr
 refine calls_of_wp hf hb ?_
 have h0:Holds C ⟨envD 0 ds,m,fn.ntmps⟩ ⟨vs++Array.replicate (fn.ntmps-vs.size) undef,[]⟩:=by
  refine⟨hh,rfl,by simp;have:=Nat.le_of_ble_eq_true hn;omega,fun t=>?_⟩
  show RdD C m (Env.at (envD 0 ds) t) _
  rw[envD_at,if_pos (Nat.zero_le _),Nat.sub_zero]
  cases hd:ds[t]? with
  | none=>exact trivial
  | some d =>
   have hlt:t<vs.size:=by rw[hl];exact(List.getElem?_eq_some_iff.1 hd).1
   have hv:vs[t]? = some vs[t]:=Array.getElem?_eq_getElem hlt
   have:(vs++Array.replicate (fn.ntmps-vs.size) undef).getD t undef=vs[t]:=by
    rw[Array.getD_eq_getD_getElem?,Array.getElem?_append_left hlt,hv];rfl
   rw[this]
   exact hr t d _ hd hv
 refine Code.wp_mono ?_ (h _ _ h0)
 rintro e a' w' ⟨C',s',rfl,hq,h',hx⟩
 have fin:((∃ xs,RetOK P s' fn.results.toList xs∧pack xs=r)∧∀ g,s'.mem.at g=m'.at g)→a'.defers=[]∧∃ v,(results fn a'.tmps).run P C'.w = .ok v C'.w∧∃ v' C1,Ending.returned v = .returned v'∧C1.w=C'.w∧Step C m C1 m'∧RdD C1 m' (.dat true r) v':=by
  rintro⟨⟨xs,hro,rfl⟩,hm⟩
  obtain⟨us,l1,l2,r1,r2⟩:=ret_ok h' hro
  refine⟨h'.defers,_,run_results us l1 r1,_,C',rfl,rfl,Step_congr (fun _=>rfl) hm hx,?_⟩
  exact pack_rdF (n:=true) (by omega) r2
 cases e with
 | normal=>exact fin hq
 | ret=>exact fin hq
 | _=>exact hq.elim
end Go.Proofs.YtcdhlofhhcgohaaGreat
namespace Go.Proofs.YtcdhlofhhcgohaaGreat
open Go.RowKit
def endW (t:Tmp) (K:List Nat) (cs:List D) (mk':Mem):Exit→St→Prop
 | .normal,s=>∃ g frz nw,s.env.at t = .ptr g 0∧s.mem.at g = .cells frz nw cs∧K.map s.mem.at=K.map mk'.at
 | .ret,s=>∃ g frz nw,s.env.at t = .ptr g 0∧s.mem.at g = .cells frz nw cs∧K.map s.mem.at=K.map mk'.at
 | _,_=>False
theorem ret_cellD {P:Program} {C:Cf} {s:St} {a:Act} (h:Holds C s a) {t:Tmp} {T:TypeId} {sz by_ g:Nat} {zs:List V} {frz nw:Bool} {cs:List D} (ht:TyI P T true sz by_ zs) (hp:s.env.at t = .ptr g 0) (hm:s.mem.at g = .cells frz nw cs) (hl:cs.length=sz) :
  ∃ v,(resOne a.tmps (.cell t T)).run P C.w = .ok v C.w∧RdD C s.mem (.aggd cs) v:=by
 have hp':=h.env t
 rw[hp]at hp'
 obtain⟨frz',nw',cs',b,hat,hi,hv⟩:=hp'
 have hb:=h.mem.box g
 rw[hm]at hb hat
 injection hat with e1 e2 e3
 subst e1;subst e2;subst e3
 obtain⟨b',hi',arr,T',fz,h1,h2,h3,h4,h5⟩:=hb
 rw[hi]at hi'
 injection hi' with hi'
 subst hi'
 have hcell:∀ j,j<sz→arr[j]? = some (arr.getD j undef):=fun j hj=>by
  have:j<arr.size:=by omega
  simp[Array.getElem?_eq_getElem this]
 refine⟨.agg ((List.range sz).map fun j=>arr.getD j undef).toArray,?_,⟨_,rfl,by simp;omega,fun j d c hd hcv=>?_⟩⟩
 ·simp only[resOne,hv,asAddr,Sem.run_bind,Sem.run_pure,Result.andThen_ok]
  exact run_loadVar_agg ht C.w _ (fun j=>arr.getD j undef) (fun j hj=>by rw[aadd,cell_of_arr h1,Nat.zero_add];exact hcell j hj)
 ·have hj:j<sz:=by have:=(List.getElem?_eq_some_iff.1 hd).1;omega
  have hce:c=arr.getD j undef:=by simpa[hj]using hcv.symm
  subst hce
  exact h4 j d _ hd (hcell j hj)
theorem step_new {C C1:Cf} {m1 mk':Mem} {K:List Nat} (h0:HoldsM C []) (hx:Ext C [] C1 m1) (hh:HoldsM C1 m1) (hK:closedM K mk'=true) (he:∀ g,K.contains g=true→m1.at g=mk'.at g):Step C [] C1 mk':=by
 have hm':∀ g,mk'.at g ≠ .gone→mk'.at g=m1.at g:=fun g hg=>by
  cases hc:K.contains g
  ·exact absurd (closedM_out hK hc) hg
  ·exact(he g hc).symm
 have gone:∀ g,Mem.at ([]:Mem) g = .gone:=fun _=>rfl
 have keepS:∀ b,C.S b→C1.w.heap[b]? = C.w.heap[b]? := fun b hb=>hx.keep b (h0.sdom b hb) (fun g hg=>by rw[gone]at hg;cases hg)
 refine⟨⟨hx.os,hx.tape,hx.output,hx.size,hx.keep,fun g b hm hi=>hx.own g b (by
  have hne:mk'.at g ≠ .gone:=by intro e;rw[e]at hm;cases hm
  rw[←hm' g hne];exact hm) hi,hx.sS,hx.sN,hx.supS,hx.supN⟩,sub_holds hh (fun g hg=>(he g hg).symm) (fun g hg=>closedM_out hK hg) (fun g frz nw cs hg=>closedM_in hK hg),RdD.of_S fun d v hd=>?_⟩
 cases d with
 | any=>trivial
 | nil=>exact hd
 | grd b d=>exact hd.elim
 | aggd cs=>exact hd.elim
 | fnd _ _=>exact hd.elim
 | dat n x =>
  cases n
  ·exact Rd.mono hd hx.sS keepS
  ·exact Rd.mono hd hx.sN (fun b hb=>keepS b (h0.ns b hb))
 | own g ver lo len=>exact absurd (gone g) (RdS_live hd rfl)
 | ptr g off=>exact absurd (gone g) (RdS_live hd rfl)
 | rptr g ver i off=>exact absurd (gone g) (RdS_live hd rfl)
 | mp g=>exact absurd (gone g) (RdS_live hd rfl)
 | sl g n=>exact absurd (gone g) (RdS_live hd rfl)
theorem fnM_new {P : Program} {f : FuncId} {fn : Func} {c : Code} {ds : List V} {cs : List D} {mk' : Mem} {K : List Nat} {t : Tmp} {T : TypeId} {sz by_ : Nat} {zs : List V} [ht : TyI P T true sz by_ zs] (hf : P.funcs[f]? = some fn) (hb : fn.body = some c) (hn : Nat.ble ds.length fn.ntmps = true) (hname : (fn.name == "runtime.NumGoroutine") = false)
  (hres:fn.results.toList=[.cell t T]) (hK':closedM K mk'=true) (hcs:cs.length=sz) (hrK:(refsK (.aggd cs)).all (fun g=>K.contains g)=true)
  (h:DW P c (endW t K cs mk') ⟨envOf 0 ds,[],fn.ntmps⟩):FnM P f (ds.map (D.dat false)) [] (.aggd cs) mk':=by
 refine⟨⟨fn,hf,by rw[hb];rfl,hname⟩,?_⟩
 intro C vs hh hl hr
 rw[List.length_map]at hl
 refine calls_of_wp hf hb ?_
 have h0:Holds C ⟨envOf 0 ds,[],fn.ntmps⟩ ⟨vs++Array.replicate (fn.ntmps-vs.size) undef,[]⟩:=by
  refine⟨hh,rfl,by simp;have:=Nat.le_of_ble_eq_true hn;omega,fun u=>?_⟩
  show RdD C [] (Env.at (envOf 0 ds) u) _
  rw[envOf_at,if_pos (Nat.zero_le _),Nat.sub_zero]
  cases hd:ds[u]? with
  | none=>exact trivial
  | some d =>
   have hlt:u<vs.size:=by rw[hl];exact(List.getElem?_eq_some_iff.1 hd).1
   have hv:vs[u]? = some vs[u]:=Array.getElem?_eq_getElem hlt
   have:(vs++Array.replicate (fn.ntmps-vs.size) undef).getD u undef=vs[u]:=by
    rw[Array.getD_eq_getD_getElem?,Array.getElem?_append_left hlt,hv];rfl
   rw[this]
   exact hr u (.dat false d) _ (by rw[List.getElem?_map,hd];rfl) hv
 refine Code.wp_mono ?_ (h _ _ h0)
 rintro e a' w' ⟨C',s',rfl,hq,h',hx⟩
 have fin:(∃ g frz nw,s'.env.at t = .ptr g 0∧s'.mem.at g = .cells frz nw cs∧K.map s'.mem.at=K.map mk'.at)→a'.defers=[]∧∃ v,(results fn a'.tmps).run P C'.w = .ok v C'.w∧∃ v' C1,Ending.returned v = .returned v'∧C1.w=C'.w∧Step C [] C1 mk'∧RdD C1 mk' (.aggd cs) v':=by
  rintro⟨g,frz,nw,hp,hm,hmem⟩
  obtain⟨v,r1,r2⟩:=ret_cellD h' ht hp hm hcs
  have heq:∀ g,K.contains g=true→s'.mem.at g=mk'.at g:=fun g hg=>List.map_inj_left.1 hmem g (by simpa using hg)
  refine⟨h'.defers,_,run_results [v] (by rw[hres];rfl) (fun j x u hj hu=>?_),_,C',rfl,rfl,step_new hh hx h'.mem hK' heq,?_⟩
  ·rw[hres]at hj
   cases j with
   | zero=>simp at hj hu;subst hj;subst hu;exact r1
   | succ j=>simp at hu
  ·refine RdD_to (C:=C') (m:=s'.mem) rfl rfl rfl (fun b d' e=>by cases e) (fun g hg=>⟨(heq g ?_).symm,rfl⟩) r2
   exact List.all_eq_true.1 hrK g hg
 cases e with
 | normal=>exact fin hq
 | ret=>exact fin hq
 | _=>exact hq.elim
end Go.Proofs.YtcdhlofhhcgohaaGreat
namespace Go.Proofs.YtcdhlofhhcgohaaGreat
open Go.RowKit
section
variable {P : Program} {e : Operand → D} {m : Mem} {dst : Option Tmp} {ty : TypeId} {pos : String} {af : Array Edge} {gd : Option (Nat × Bool)}
theorem has_iff {K:List Nat} {g:Nat}:K.contains g=true↔g∈K:=by simp
theorem hasnt_iff {K:List Nat} {g:Nat}:K.contains g=false↔g∉K:=by
 cases h:K.contains g with
 | true=>simp[has_iff.1 h]
 | false=>simp only[true_iff];exact fun hm=>by rw[has_iff.2 hm]at h;cases h
theorem callW_go {f:FuncId} {ds:List D} {r:D} {mk mk':Mem} {K:List Nat} (wr:Mem) (hc:FnM P f ds mk r mk') (hsub:∀ g,g∈K→mk.at g=m.at g) (hout:∀ g,g∉K→mk.at g = .gone)
  (hcl:∀ g frz nw cs,mk.at g = .cells frz nw cs→∀ d∈cs,inKD K d) (hmu:∀ g,mk'.at g ≠ .gone→(mk'.at g).mut=true) (hwr:∀ g,mk'.at g=Mem.at (wr++mk) g) (hwk:∀ g,g∈wr.map (·.1)→g∈K)
  (hr:noGrd r=true) (hrK:(refsK r).all (fun g=>K.contains g)=true)
  {C:Cf} {m':Mem} {vs:Array Value} (hag:∀ g,g∈K→m'.at g=m.at g) (hm:HoldsM C m') (hl:vs.size=ds.length) (hds:ds.all (fun d=>noGrd d && (refsK d).all fun g=>K.contains g)=true) (hvs:∀ (j:Nat) d v,ds[j]? = some d→vs[j]? = some v→RdD C m' d v) :
  Calls P f vs C.w fun e' w'=>∃ v C',e' = .returned v∧C'.w=w'∧Step C m' C' (wr++m')∧RdD C' (wr++m') r v:=by
 have hin:∀ g,K.contains g=true→mk.at g=m'.at g:=fun g hg=>by
  have hg:=has_iff.1 hg
  rw[hag g hg];exact hsub g hg
 have hout2:∀ g,K.contains g=false→mk.at g = .gone:=fun g hg=>hout g (hasnt_iff.1 hg)
 have hout':∀ g,K.contains g=false→mk'.at g = .gone:=fun g hg=>by
  have hg:=hasnt_iff.1 hg
  rw[hwr,look_append,if_neg (fun h=>hg (hwk g h))]
  exact hout g hg
 have hk:HoldsM C mk:=sub_holds hm hin hout2 hcl
 have hat:∀ g,Mem.at (mixM mk' K++m') g=Mem.at (wr++m') g:=fun g=>by
  rw[mixM_at,look_append]
  by_cases hg:g∈K
  ·rw[if_pos (has_iff.2 hg),hwr,look_append]
   split
   ·rfl
   ·exact hin g (has_iff.2 hg)
  ·rw[if_neg (by rw[hasnt_iff.2 hg];simp),if_neg (fun h=>hg (hwk g h))]
 refine(hc.2 C vs hk hl (fun j d v h1 h2=>?_)).mono ?_
 ·have hd:=List.all_eq_true.1 hds d (List.mem_of_getElem? h1)
  rw[Bool.and_eq_true]at hd
  exact RdD_to rfl rfl rfl (noGrd_ok hd.1) (fun g hg=>⟨hin g (List.all_eq_true.1 hd.2 g hg),rfl⟩) (hvs j d v h1 h2)
 ·rintro e' w' ⟨v,C1,rfl,rfl,hst,hrv⟩
  refine⟨v,mixC K C C1,rfl,rfl,Step_congr (fun _=>rfl) hat (frame_step hm hin hout2 hout' hmu hst),?_⟩
  refine RdD_congr hat _ _ (RdD_to (C:=C1) (m:=mk') rfl rfl rfl (noGrd_ok hr) (fun g hg=>?_) hrv)
  have hgk:=List.all_eq_true.1 hrK g hg
  exact⟨by rw[mixM_at,hgk];rfl,by show(if K.contains g then C1.ι g else C.ι g)=_;rw[hgk];rfl⟩
theorem S_callW {f:FuncId} {args:Array Operand} {ats:Array TypeId} {ds:List D} {r:D} {mk mk':Mem} (K:List Nat) (wr:Mem) (hc:FnM P f ds mk r mk') (ha:args.toList.map e=ds) (hsub:∀ g,g∈K→mk.at g=m.at g) (hout:∀ g,g∉K→mk.at g = .gone)
  (hcl:∀ g frz nw cs,mk.at g = .cells frz nw cs→∀ d∈cs,inKD K d) (hmu:∀ g,mk'.at g ≠ .gone→(mk'.at g).mut=true) (hwr:∀ g,mk'.at g=Mem.at (wr++mk) g) (hwk:∀ g,g∈wr.map (·.1)→g∈K)
  (hr:noGrd r=true) (hrK:(refsK r).all (fun g=>K.contains g)=true) (hds:ds.all (fun d=>noGrd d && (refsK d).all fun g=>K.contains g)=true) :
  SStep P ⟨dst,.call { callee := .value (.func f),args:=args,argTypes:=ats },ty,pos,af,gd⟩ e m K r wr:=by
 intro C m' a next Q hag hm hx hn
 have hrun:(execOp a.eval ⟨dst,.call { callee := .value (.func f),args:=args,argTypes:=ats },ty,pos,af,gd⟩).run P C.w = .ok (.enter f (args.map a.eval)) C.w:=by
  have hev:a.eval (.func f) = .func (.func f) #[] #[]:=rfl
  simp only[execOp,resolve,hev,Deferred.ofValue,Sem.run_bind,Sem.run_pure,Result.andThen_ok,invoke,run_callFunc hc.1]
  simp
 unfold Oper.wp
 rw[hrun]
 show Calls P f (args.map a.eval) C.w _
 refine(callW_go wr hc hsub hout hcl hmu hwr hwk hr hrK (fun g hg=>hag g (.inl hg)) hm (by rw[←ha];simp) hds (fun j d v hd hv=>?_)).mono ?_
 ·simp only[Array.getElem?_map,Option.map_eq_some_iff]at hv
  obtain⟨o,ho,rfl⟩:=hv
  have ho':(args.toList.map e)[j]? = some (e o):=by simp[ho]
  rw[ha,hd]at ho'
  injection ho' with ho'
  rw[ho']
  exact hx o (by simp only[Op.operands,Call.operands];exact Array.mem_append.2 (.inr (Array.mem_of_getElem? ho)))
 ·rintro e' w' ⟨v,C',rfl,rfl,h1,h2⟩
  exact hn v C' h1 h2
end
theorem RdS_chg {C:Cf} {m m':Mem} (h:∀ g,m'.at g=m.at g∨∃ frz nw cs cs',m.at g = .cells frz nw cs∧m'.at g = .cells frz nw cs') {d:D} {v:Value} (hr:RdS C m d v):RdS C m' d v:=by
 cases d with
 | any=>trivial
 | nil=>exact hr
 | dat n x=>exact hr
 | own g ver lo len =>
  obtain⟨ver',frz,nw,sz,xs,h1,h2⟩:=hr
  rcases h g with e|⟨_,_,_,_,e,_⟩
  ·exact⟨ver',frz,nw,sz,xs,by rw[e];exact h1,h2⟩
  ·rw[h1]at e;cases e
 | ptr g off =>
  obtain⟨frz,nw,cs,b,h1,h2⟩:=hr
  rcases h g with e|⟨f',n',cs0,cs',e,e'⟩
  ·exact⟨frz,nw,cs,b,by rw[e];exact h1,h2⟩
  ·exact⟨f',n',cs',b,e',h2⟩
 | rptr g ver i off =>
  obtain⟨ver',frz,nw,sz,xs,h1,h2⟩:=hr
  rcases h g with e|⟨_,_,_,_,e,_⟩
  ·exact⟨ver',frz,nw,sz,xs,by rw[e];exact h1,h2⟩
  ·rw[h1]at e;cases e
 | mp g =>
  obtain⟨kt,et,es,b,h1,h2⟩:=hr
  rcases h g with e|⟨_,_,_,_,e,_⟩
  ·exact⟨kt,et,es,b,by rw[e];exact h1,h2⟩
  ·rw[h1]at e;cases e
 | sl g n =>
  obtain⟨frz,nw,cs,b,cap,h1,h2⟩:=hr
  rcases h g with e|⟨f',n',cs0,cs',e,e'⟩
  ·exact⟨frz,nw,cs,b,cap,by rw[e];exact h1,h2⟩
  ·exact⟨f',n',cs',b,cap,e',h2⟩
 | grd b d=>exact hr.elim
 | aggd cs=>exact hr.elim
 | fnd f cs=>exact hr.elim
theorem RdD_chg {C:Cf} {m m':Mem} (h:∀ g,m'.at g=m.at g∨∃ frz nw cs cs',m.at g = .cells frz nw cs∧m'.at g = .cells frz nw cs'):∀ (d:D) (v:Value),RdD C m d v→RdD C m' d v:=RdD.of_S (fun _ _=>RdS_chg h)
theorem DW_cells {P:Program} {c:Code} {Q:Exit→St→Prop} {env:Env} {mem:Mem} {n:Nat} (g:Nat) {cs:List D} (cs':List D) (hg:mem.at g = .cells false true cs) (hl:cs'.length=cs.length)
  (h:∀ C,HoldsM C mem→∀ (j:Nat) d d' v,cs[j]? = some d→cs'[j]? = some d'→RdS C mem d v→RdS C mem d' v) (k:DW P c Q ⟨env,(g,.cells false true cs')::mem,n⟩):DW P c Q ⟨env,mem,n⟩:=by
 have hat:∀ g',Mem.at ((g,.cells false true cs')::mem) g'=if g=g' then .cells false true cs' else mem.at g':=fun g'=>look_cons ..
 have hch:∀ g',Mem.at ((g,.cells false true cs')::mem) g'=mem.at g'∨∃ frz nw cs0 cs1,mem.at g' = .cells frz nw cs0∧Mem.at ((g,.cells false true cs')::mem) g' = .cells frz nw cs1:=fun g'=>by
  rw[hat]
  by_cases e:g=g'
  ·subst e;rw[if_pos rfl];exact .inr ⟨false,true,cs,cs',hg,rfl⟩
  ·rw[if_neg e];exact .inl rfl
 have hmut:∀ g',(Mem.at ((g,.cells false true cs')::mem) g').mut=(mem.at g').mut:=fun g'=>by
  rw[hat]
  by_cases e:g=g'
  ·subst e;rw[if_pos rfl,hg];rfl
  ·rw[if_neg e]
 refine DW_weak (s':=⟨env,(g,.cells false true cs')::mem,n⟩) (fun C a hh=>⟨C,rfl,⟨?_,hh.defers,hh.size,fun t=>RdD_chg hch _ _ (hh.env t)⟩,?_⟩) k
 ·have hm:=hh.mem
  refine⟨fun g'=>?_,fun g1 g2 b h1 h2=>hm.inj g1 g2 b (fun e=>h1 ?_) (fun e=>h2 ?_),fun g' b h1=>hm.sep g' b (by rw[←hmut];exact h1),hm.sdom,hm.ns⟩
  ·have hb:=hm.box g'
   show BoxOK C _ (C.ι g') (Mem.at ((g,.cells false true cs')::mem) g')
   rw[hat]
   by_cases e:g=g'
   ·subst e
    rw[if_pos rfl]
    rw[show mem.at g = .cells false true cs from hg]at hb
    obtain⟨b,hi,arr,T,fz,h1,h2,h3,h4,h5⟩:=hb
    refine⟨b,hi,arr,T,fz,h1,h2,by omega,fun j d' c hd hc=>RdS_chg hch ?_,h5⟩
    have hj:j<cs.length:=by have:=(List.getElem?_eq_some_iff.1 hd).1;omega
    exact h C hm j cs[j] d' c (List.getElem?_eq_getElem hj) hd (h4 j _ c (List.getElem?_eq_getElem hj) hc)
   ·rw[if_neg e]
    change BoxOK C mem (C.ι g') (mem.at g')at hb
    revert hb
    cases mem.at g' with
    | gone=>exact fun hb=>hb
    | cells frz nw cs0 =>
     rintro⟨b,hi,arr,T,fz,h1,h2,h3,h4,h5⟩
     exact⟨b,hi,arr,T,fz,h1,h2,h3,fun j d c hd hc=>RdS_chg hch (h4 j d c hd hc),h5⟩
    | row ver frz nw sz xs=>exact fun hb=>hb
    | mapb kt et es=>exact fun hb=>hb
  ·rw[hat]at *
   by_cases e2:g=g1
   ·subst e2;rw[hg]at e;cases e
   ·rw[if_neg e2];exact e
  ·rw[hat]at *
   by_cases e2:g=g2
   ·subst e2;rw[hg]at e;cases e
   ·rw[if_neg e2];exact e
 ·exact⟨rfl,rfl,rfl,Nat.le_refl _,fun _ _ _=>rfl,fun g' b h1 h2=>.inr ⟨g',by rw[←hmut];exact h1,h2⟩,fun _ h=>h,fun _ h=>h,fun _ h=>.inl h,fun _ h=>.inl h⟩
end Go.Proofs.YtcdhlofhhcgohaaGreat
