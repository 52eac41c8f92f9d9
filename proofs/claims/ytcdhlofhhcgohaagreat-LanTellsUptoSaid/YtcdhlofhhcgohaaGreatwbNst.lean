/- Own slices that lie in own boxes of cells: a row turned into cells, slices over cells, many boxes renamed or frozen at once, cells read as data. -/
import Derived.Test.YtcdhlofhhcgohaaGreatwbGo
import Derived.Test.YtcdhlofhhcgohaaGreatwcRgW
namespace Go.Proofs.YtcdhlofhhcgohaaGreat
open Go.RowKit
def DWS (P:Program) (c:Code) (Q:Exit→St→Prop) (s:St):Prop :=
 ∀ (C:Cf) (a:Act),Holds C s a→c.wp P (fun e a' w'=>∃ C' s',C'.w=w'∧Q e s'∧Holds C' s' a'∧Step C s.mem C' s'.mem) a C.w
def zoX (d d':D):Prop:=d'=d∨(∃ x,d = .dat true x∧d' = .dat false x)∨d' = .any
def SWk (s s':St):Prop:=s'.n=s.n∧(∀ g,s.mem.at g=s'.mem.at g)∧∀ t,zoX (s.env.at t) (s'.env.at t)
theorem SWk.holds {s s':St} {C:Cf} {a:Act} (h:SWk s s') (hh:Holds C s a):Holds C s' a:=by
 obtain⟨h1,h2,h3⟩:=h
 refine⟨zbW h2 hh.mem,hh.defers,by rw[h1];exact hh.size,fun t=>?_⟩
 have he:=zb7 h2 _ _ (hh.env t)
 rcases h3 t with e|⟨x,e1,e2⟩|e
 ·rw[e];exact he
 ·rw[e2]
  rw[e1]at he
  have hx:RdF C true x (a.tmps.getD t undef):=he
  exact hx.weak hh.mem
 ·rw[e];exact trivial
theorem zkq {e:Env}:∀ t,zoX (e.at t) (Env.at [] t):=fun _t=>.inr (.inr rfl)
theorem zia {e:Env} {t0:Nat} {d:D} {r:Env} (h:zoX (e.at t0) d) (k:∀ t,zoX (e.at t) (Env.at r t)):∀ t,zoX (e.at t) (Env.at ((t0,d)::r) t):=fun t=>by
 by_cases ht:t0=t
 ·subst ht
  rw[show Env.at ((t0,d)::r) t0=d from zcP _ _ _ _]
  exact h
 ·rw[show Env.at ((t0,d)::r) t=Env.at r t from zcL _ _ _ _ _ ht]
  exact k t
section
variable {P : Program} {Q Q' : Exit → St → Prop} {s s' : St}
theorem Step.ofSW {C:Cf} {a:Act} (h:SWk s s') (hh:Holds C s a):Step C s.mem C s'.mem:=zcM (fun _=>rfl) h.2.1 (Step.refl hh.mem)
theorem zqX {c:Code} (h:SWk s s') (k:DWS P c Q s'):DWS P c Q s:=fun C a hh =>
 Code.wp_mono (fun _ _ _ ⟨C2,s2,e2,q2,h2,x2⟩=>⟨C2,s2,e2,q2,h2,(Step.ofSW h hh).trans x2⟩) (k C a (h.holds hh))
theorem zqY (h:Q .normal s):DWS P .skip Q s:=fun C _a hh=>wp_skip ⟨C,s,rfl,h,hh,Step.refl hh.mem⟩
theorem zqZ {id:Nat} (h:Q (.exit id) s):DWS P (.exit id) Q s:=fun C _a hh=>wp_exit ⟨C,s,rfl,h,hh,Step.refl hh.mem⟩
theorem zsR (h:Q .ret s):DWS P .ret Q s:=fun C _a hh=>wp_ret ⟨C,s,rfl,h,hh,Step.refl hh.mem⟩
theorem zsS {x y:Code} (h:DWS P x (zaG (DWS P y Q) Q) s):DWS P (.seq x y) Q s:=fun C a hh=>by
 refine wp_seq (Code.wp_mono ?_ (h C a hh))
 rintro e a1 w1 ⟨C1,s1,rfl,q1,h1,x1⟩
 cases e with
 | normal=>exact Code.wp_mono (fun ex a2 w2 ⟨C2,s2,e2,q2,h2,x2⟩=>⟨C2,s2,e2,q2,h2,x1.trans x2⟩) (q1 C1 a1 h1)
 | _=>exact⟨C1,s1,rfl,q1,h1,x1⟩
theorem znn {c:Operand} {x y:Code} {n:Bool} (hc:ev s c = .dat n (.bool true)) (h:DWS P x Q s):DWS P (.cond c x y) Q s:=fun C a hh=>by
 have he:=zjP hh c
 rw[hc]at he
 exact wp_cond_true (za4 he) (h C a hh)
theorem zno {c:Operand} {x y:Code} {n:Bool} (hc:ev s c = .dat n (.bool false)) (h:DWS P y Q s):DWS P (.cond c x y) Q s:=fun C a hh=>by
 have he:=zjP hh c
 rw[hc]at he
 exact wp_cond_false (za4 he) (h C a hh)
theorem zoY {id:Nat} {c:Code} (h:DWS P c (zaE id Q) s):DWS P (.block id c) Q s:=fun C a hh=>by
 refine wp_block (Code.wp_mono ?_ (h C a hh))
 rintro e a1 w1 ⟨C1,s1,rfl,q1,h1,x1⟩
 cases e with
 | exit id' =>
  simp only[zaE,Exit.inBlock]at q1 ⊢
  split at q1
  ·rename_i hid;rw[if_pos hid];exact⟨C1,s1,rfl,q1,h1,x1⟩
  ·rename_i hid;rw[if_neg hid];exact⟨C1,s1,rfl,q1,h1,x1⟩
 | _=>exact⟨C1,s1,rfl,q1,h1,x1⟩
theorem znp {id:Nat} {l:List Oper} (h:DOps P l.toArray l s [] (fun _ s'=>Q .normal s')):DWS P (.region id l.toArray false) Q s:=fun C a hh=>by
 obtain⟨tr,s',hr,hq⟩:=h
 exact wp_region_lit (zcH l s tr s' C a hr hh (fun C' a' h' x'=>⟨C',s',rfl,hq,h',x'⟩))
theorem zq0 {id:Nat} {l:List Oper} (h:DOps P l.toArray l s [] (fun acc s'=>chk l acc=true∧Q .normal s')):DWS P (.region id l.toArray true) Q s:=fun _C _a hh=>zop h hh
def zd2 {X:Type} (inv:X→St) (R:X→Prop) (μ:X→Nat) (x:X) (Q:Exit→St→Prop):Exit→St→Prop
 | .normal,s=>∃ x',R x'∧μ x'<μ x∧SWk s (inv x')
 | e,s=>Q e s
theorem zq1 {X:Type} (inv:X→St) (R:X→Prop) (μ:X→Nat) {c:Code} (x0:X) (h0:R x0) (hw:SWk s (inv x0))
  (round:∀ x,R x→DWS P c (zd2 inv R μ x Q) (inv x)):DWS P (.loop c) Q s:=by
 refine zqX hw ?_
 intro C a hh b k cs
 have key:∀ (n:Nat) (x:X) (C1:Cf) (a1:Act),μ x=n→R x→Holds C1 (inv x) a1 →
   ∃ e a' w',(∃ C' s',C'.w=w'∧Q e s'∧Holds C' s' a'∧Step C1 (inv x).mem C' s'.mem)∧Arrives P (lone (b.at a1 (.code c :: .inLoop c::k)) cs C1.w) b k cs e a' w':=by
  intro n
  induction n using Nat.strongRecOn with
  | _ n ih =>
   intro x C1 a1 hn hR h1
   obtain⟨e,a2,w2,⟨C2,s2,rfl,q2,h2,x2⟩,harr⟩:=round x hR C1 a1 h1 b (.inLoop c::k) cs
   cases e with
   | normal =>
    obtain⟨x',hR',hlt,hwk⟩:=q2
    obtain⟨e4,a4,w4,⟨C4,s4,hw4,q4,h4,x4⟩,harr4⟩:=ih (μ x') (hn▸hlt) x' C2 a2 rfl hR' (hwk.holds h2)
    exact⟨e4,a4,w4,⟨C4,s4,hw4,q4,h4,(x2.trans (Step.ofSW hwk h2)).trans x4⟩,.of_steps (Steps.trans harr (.one step_inLoop)) harr4⟩
   | exit id=>exact⟨_,a2,_,⟨C2,s2,rfl,q2,h2,x2⟩,.pass (x := .inLoop c) rfl (fun _ _=>.inl (by simp)) harr⟩
   | goto l=>exact⟨_,a2,_,⟨C2,s2,rfl,q2,h2,x2⟩,.pass (x := .inLoop c) rfl (fun _ _=>.inl (by simp)) harr⟩
   | ret=>exact⟨_,a2,_,⟨C2,s2,rfl,q2,h2,x2⟩,.pass (x := .inLoop c) rfl (fun _ _=>.inl (by simp)) harr⟩
   | panic ch=>exact⟨_,a2,_,⟨C2,s2,rfl,q2,h2,x2⟩,.pass (x := .inLoop c) rfl (fun _ _=>.inl (by simp)) harr⟩
   | outgrown=>exact⟨_,a2,_,⟨C2,s2,rfl,q2,h2,x2⟩,.pass (x := .inLoop c) rfl (fun _ _=>.inl (by simp)) harr⟩
 obtain⟨e,a',w',hq,harr⟩:=key _ x0 C a rfl h0 hh
 exact⟨e,a',w',hq,.of_steps (.one step_loop) harr⟩
theorem zlB {X:Type} {inv:X→St} {R:X→Prop} {μ:X→Nat} {x:X} (x':X) (hR:R x') (hm:μ x'<μ x) (hw:SWk s (inv x')):zd2 inv R μ x Q .normal s:=⟨x',hR,hm,hw⟩
theorem znq {X:Type} {inv:X→St} {R:X→Prop} {μ:X→Nat} {x:X} {id:Nat} (h:Q (.exit id) s):zd2 inv R μ x Q (.exit id) s:=h
theorem zoZ {X:Type} {inv:X→St} {R:X→Prop} {μ:X→Nat} {x:X} (h:Q .ret s):zd2 inv R μ x Q .ret s:=h
end
inductive StpS : Prop→Prop→Prop
 | seq {P:Program} {x y:Code} {Q:Exit→St→Prop} {s:St}:StpS (DWS P x (zaG (DWS P y Q) Q) s) (DWS P (.seq x y) Q s)
 | region {P:Program} {id:Nat} {l:List Oper} {Q:Exit→St→Prop} {s:St}:StpS (DOps P l.toArray l s [] (fun _ s'=>Q .normal s')) (DWS P (.region id l.toArray false) Q s)
 | draw {P:Program} {id:Nat} {l:List Oper} {Q:Exit→St→Prop} {s:St}:StpS (DOps P l.toArray l s [] (fun acc s'=>chk l acc=true∧Q .normal s')) (DWS P (.region id l.toArray true) Q s)
 | block {P:Program} {id:Nat} {c:Code} {Q:Exit→St→Prop} {s:St}:StpS (DWS P c (zaE id Q) s) (DWS P (.block id c) Q s)
 | le {X:Type} {inv:X→St} {R:X→Prop} {μ:X→Nat} {x:X} {Q:Exit→St→Prop} {s:St} {id:Nat}:StpS (Q (.exit id) s) (zd2 inv R μ x Q (.exit id) s)
 | lr {X:Type} {inv:X→St} {R:X→Prop} {μ:X→Nat} {x:X} {Q:Exit→St→Prop} {s:St}:StpS (Q .ret s) (zd2 inv R μ x Q .ret s)
 | ret {P:Program} {Q:Exit→St→Prop} {s:St}:StpS (Q .ret s) (DWS P .ret Q s)
 | exit {P:Program} {Q:Exit→St→Prop} {s:St} {id:Nat}:StpS (Q (.exit id) s) (DWS P (.exit id) Q s)
 | skip {P:Program} {Q:Exit→St→Prop} {s:St}:StpS (Q .normal s) (DWS P .skip Q s)
theorem Va {p q:Prop} (a:StpS p q) (k:p):q:=by
 cases a with
 | seq=>exact zsS k
 | region=>exact znp k
 | draw=>exact zq0 k
 | block=>exact zoY k
 | le=>exact znq k
 | lr=>exact zoZ k
 | ret=>exact zsR k
 | exit=>exact zqZ k
 | skip=>exact zqY k
def FnI (P:Program) (f:FuncId) (ds:List D) (m m':Mem):Prop:=Callable P f ∧
 ∀ (C:Cf) (vs:Array Value),HoldsM C m→vs.size=ds.length→(∀ (j:Nat) d v,ds[j]? = some d→vs[j]? = some v→RdD C m d v) →
  Calls P f vs C.w fun e w'=>∃ v C',e = .returned v∧C'.w=w'∧Step C m C' m'
def inB (m:Mem) (g:Nat):Box→Box
 | .row _ frz nw sz xs=>.row (zcR (m.at g)) frz nw sz xs
 | b=>b
def inM (m m':Mem):Tr→Mem
 | []=>[]
 | (k,g)::r=>(g,inB m g (m'.at k))::inM m m' r
def zlC (mk':Mem):Tr→Prop
 | []=>True
 | (k,_)::r=>(∃ nw sz xs,mk'.at k = .row 0 false nw sz xs)∧zlC mk' r
theorem zcV {mk':Mem}:∀ {T:Tr},zlC mk' T→∀ {k g:Nat},(k,g)∈T→∃ nw sz xs,mk'.at k = .row 0 false nw sz xs
 | (k0,g0)::_,h,k,g,hm=>by
  rcases List.mem_cons.1 hm with e|hm
  ·injection e with e1 e2;rw[e1];exact h.1
  ·exact zcV h.2 hm
theorem ztF {mk':Mem}:∀ (T:Tr) (m:Mem) (g:Nat),Mem.at (inM m mk' T++m) g=match toK T g with|some k=>inB m g (mk'.at k)|none=>m.at g:=fun T m g=>by
 have key:∀ (T:Tr) (m0:Mem),Mem.at (inM m0 mk' T++m) g=match toK T g with|some k=>inB m0 g (mk'.at k)|none=>m.at g:=by
  intro T m0
  induction T with
  | nil=>rfl
  | cons p r ih =>
   obtain⟨k,g'⟩:=p
   show look _ ((g',_)::(inM m0 mk' r++m)) g=_
   rw[zai]
   simp only[toK]
   by_cases h:g'=g
   ·subst h
    rw[if_pos rfl,show Nat.beq g' g'=true by simp]
    rfl
   ·rw[if_neg h,nbeqf.2 h]
    exact ih
 exact key T m
section
variable {C C1 : Cf} {m mk mk' : Mem} {T : Tr}
theorem znr (hh:HoldsM C m) (ht:okT T=true) (hl:zdv m mk T) (hk:zdO T mk=true) (_hk':zdO T mk'=true) (hb':zlC mk' T)
  (hst:Step (ze3 C T) mk C1 mk'):Step C m (zgL C C1 T) (inM m mk' T++m):=by
 have hx:=hst.ext
 have h1:=hst.holds
 have hslot:=hst.slot
 have hat:∀ g,Mem.at (inM m mk' T++m) g=match toK T g with|some k=>inB m g (mk'.at k)|none=>m.at g:=fun g=>ztF T m g
 have lt:∀ {g b},m.at g ≠ .gone→C.ι g=some b→b<C.w.heap.size:=fun h i=>BoxOK.lt hh h i
 have mutK:∀ k b,(mk.at k).mut=true→(ze3 C T).ι k=some b→∃ g,toG T k=some g∧C.ι g=some b∧(m.at g).mut=true:=fun k b hm hi=>by
  have hkg:mk.at k ≠ .gone:=by intro h;rw[h]at hm;cases hm
  obtain⟨g,hg⟩:=zgK hk hkg
  have hi:(toG T k).bind C.ι=some b:=hi
  rw[hg,Option.bind_some]at hi
  rcases za7 hl (zgJ hg)with⟨q,_⟩|⟨ver,nw,sz,xs,_,q⟩
  ·exact absurd q hkg
  ·exact⟨g,hg,hi,by rw[q];rfl⟩
 have keepS:∀ b,C.S b→C1.w.heap[b]? = C.w.heap[b]? := fun b hb=>hx.keep b (hh.sdom b hb) (fun k hm hi=>by
  obtain⟨g,_,i,mu⟩:=mutK k b hm hi
  exact hh.sep g b mu i hb)
 have keepG:∀ g b,toK T g=none→m.at g ≠ .gone→C.ι g=some b→C1.w.heap[b]? = C.w.heap[b]? := fun g b hg hgo hi=>hx.keep b (lt hgo hi) (fun k hm hik=>by
  obtain⟨g',e1,i,mu⟩:=mutK k b hm hik
  have:m.at g' ≠ .gone:=by intro h;rw[h]at mu;cases mu
  have:=hh.inj g g' b hgo this hi i
  subst this
  rw[(toGK ht).1 e1]at hg
  cases hg)
 have hd:∀ n x v,RdF C n x v→RdF (zgL C C1 T) n x v:=fun n x v h=>by
  cases n
  ·exact Rd.mono h hx.sS keepS
  ·exact Rd.mono h hx.sN (fun b hb=>keepS b (hh.ns b hb))
 have hs:∀ d v,RdS C m d v→RdS (zgL C C1 T) (inM m mk' T++m) d v:=by
  intro d v h
  cases d with
  | any=>trivial
  | nil=>exact h
  | grd b d=>exact h.elim
  | aggd cs=>exact h.elim
  | fnd _ _=>exact h.elim
  | dat n x=>exact hd n x v h
  | own g ver lo len =>
   obtain⟨ver',frz,nw,sz,xs,e1,e2,e3,e4⟩:=h
   cases hg:toK T g with
   | none =>
    refine⟨ver',frz,nw,sz,xs,by rw[hat,hg];exact e1,e2,e3,fun hv=>?_⟩
    obtain⟨q1,q2⟩:=e4 hv
    refine⟨q1,?_⟩
    show OwnV C1.w sz (match toK T g with|some k=>C1.ι k|none=>C.ι g) lo len v
    rw[hg]
    unfold OwnV at *
    cases hi:C.ι g with
    | none=>simp only[hi]at q2 ⊢;exact q2
    | some b =>
     simp only[hi]at q2 ⊢
     obtain⟨cap,arr,T',fz,p1,p2,p3⟩:=q2
     exact⟨cap,arr,T',fz,p1,(keepG g b hg (by rw[e1];simp) hi).trans p2,p3⟩
   | some k =>
    rcases za7 hl (zbo hg)with⟨_,q⟩|⟨ver2,nw2,sz2,xs2,q1,q2⟩
    ·rw[e1]at q;cases q
    ·rw[e1]at q2
     injection q2 with p1 p2 p3 p4 p5
     subst p1 p2 p3 p4 p5
     obtain⟨nw1,sz1,xs1,f1⟩:=zcV hb' (zbo hg)
     refine⟨ver',false,nw1,sz1,xs1,by rw[hat,hg];simp only[f1,inB,e1,zcR],e2,e3,fun hv=>?_⟩
     obtain⟨r1,r2⟩:=e4 hv
     have hr0:RdD (ze3 C T) mk (.own k 0 lo len) v:=⟨0,false,nw,sz,xs,q1,Nat.le_refl _,e3,fun _=>⟨r1,by
      show OwnV C.w sz ((toG T k).bind C.ι) lo len v
      rw[(toGK ht).2 hg]
      exact r2⟩⟩
     obtain⟨w1,_,_,_,_,g1,_,_,g4⟩:=hslot _ _ hr0
     rw[f1]at g1
     injection g1 with z1 z2 z3 z4 z5
     subst z1 z2 z3 z4 z5
     obtain⟨s1,s2⟩:=g4 rfl
     refine⟨s1,?_⟩
     show OwnV C1.w sz1 (match toK T g with|some k=>C1.ι k|none=>C.ι g) lo len v
     rw[hg]
     exact s2
  | ptr g off =>
   obtain⟨frz,nw,cs,b,e1,e2,e3⟩:=h
   cases hg:toK T g with
   | none=>exact⟨frz,nw,cs,b,by rw[hat,hg];exact e1,by show(match toK T g with|some k=>C1.ι k|none=>C.ι g)=_;rw[hg];exact e2,e3⟩
   | some k =>
    rcases za7 hl (zbo hg)with⟨_,q⟩|⟨_,_,_,_,_,q⟩<;>rw[e1]at q<;>cases q
  | rptr g ver i off =>
   obtain⟨ver',frz,nw,sz,xs,e1,e2,e3,e4⟩:=h
   cases hg:toK T g with
   | none =>
    refine⟨ver',frz,nw,sz,xs,by rw[hat,hg];exact e1,e2,e3,fun hv=>?_⟩
    obtain⟨q1,b,q2,q3⟩:=e4 hv
    exact⟨q1,b,by show(match toK T g with|some k=>C1.ι k|none=>C.ι g)=_;rw[hg];exact q2,q3⟩
   | some k =>
    rcases za7 hl (zbo hg)with⟨_,q⟩|⟨ver2,nw2,sz2,xs2,q1,q2⟩
    ·rw[e1]at q;cases q
    ·rw[e1]at q2
     injection q2 with p1 p2 p3 p4 p5
     subst p1 p2 p3 p4 p5
     obtain⟨nw1,sz1,xs1,f1⟩:=zcV hb' (zbo hg)
     refine⟨ver',false,nw1,sz1,xs1,by rw[hat,hg];simp only[f1,inB,e1,zcR],e2,e3,fun hv=>?_⟩
     obtain⟨r1,b,r2,r3⟩:=e4 hv
     have hr0:RdD (ze3 C T) mk (.rptr k 0 i off) v:=⟨0,false,nw,sz,xs,q1,Nat.le_refl _,e3,fun _=>⟨r1,b,by
      show(toG T k).bind C.ι=some b
      rw[(toGK ht).2 hg]
      exact r2,r3⟩⟩
     obtain⟨w1,_,_,_,_,g1,_,_,g4⟩:=hslot _ _ hr0
     rw[f1]at g1
     injection g1 with z1 z2 z3 z4 z5
     subst z1 z2 z3 z4 z5
     obtain⟨s1,b2,s2,s3⟩:=g4 rfl
     refine⟨s1,b2,?_,s3⟩
     show(match toK T g with|some k=>C1.ι k|none=>C.ι g)=_
     rw[hg]
     exact s2
  | mp g =>
   obtain⟨kt,et,es,b,e1,e2,e3⟩:=h
   cases hg:toK T g with
   | none=>exact⟨kt,et,es,b,by rw[hat,hg];exact e1,by show(match toK T g with|some k=>C1.ι k|none=>C.ι g)=_;rw[hg];exact e2,e3⟩
   | some k =>
    rcases za7 hl (zbo hg)with⟨_,q⟩|⟨_,_,_,_,_,q⟩<;>rw[e1]at q<;>cases q
  | sl g n =>
   obtain⟨frz,nw,cs,b,cap,e1,e2,e3⟩:=h
   cases hg:toK T g with
   | none=>exact⟨frz,nw,cs,b,cap,by rw[hat,hg];exact e1,by show(match toK T g with|some k=>C1.ι k|none=>C.ι g)=_;rw[hg];exact e2,e3⟩
   | some k =>
    rcases za7 hl (zbo hg)with⟨_,q⟩|⟨_,_,_,_,_,q⟩<;>rw[e1]at q<;>cases q
 have ownB:∀ k b,(mk'.at k).mut=true→C1.ι k=some b→C.w.heap.size≤b∨∃ g,(m.at g).mut=true∧C.ι g=some b∧toK T g≠none:=fun k b hm hi=>by
  rcases hx.own k b hm hi with q|⟨k0,q1,q2⟩
  ·exact .inl q
  ·obtain⟨g,e1,e2,e3⟩:=mutK k0 b q1 q2
   exact .inr ⟨g,e3,e2,by rw[(toGK ht).1 e1];simp⟩
 have mutR:∀ g k,toK T g=some k→(mk'.at k).mut=true:=fun g k hg=>by
  obtain⟨nw1,sz1,xs1,f1⟩:=zcV hb' (zbo hg)
  rw[f1];rfl
 have cross:∀ g g' k b,toK T g=some k→toK T g'=none→m.at g' ≠ .gone→C1.ι k=some b→C.ι g'=some b→False:=fun g g' k b hg hg' hgo i1 i2=>by
  rcases ownB k b (mutR g k hg) i1 with q|⟨g0,q1,q2,q3⟩
  ·have:=lt hgo i2;omega
  ·have hne:m.at g0 ≠ .gone:=by intro h;rw[h]at q1;cases q1
   have:=hh.inj g0 g' b hne hgo q2 i2
   subst this
   exact q3 hg'
 refine⟨⟨hx.os,hx.tape,hx.output,hx.size,fun b hb hn=>hx.keep b hb (fun k hm hi=>?_),fun g b h2 h3=>?_,hx.sS,hx.sN,hx.supS,fun b hb=>?_⟩,⟨fun g=>?_,fun g g' b h2 h3 i1 i2=>?_,fun g b h2 h3 h4=>?_,h1.sdom,h1.ns⟩,RdD.of_S hs⟩
 ·obtain⟨g,_,e2,e3⟩:=mutK k b hm hi
  exact hn g e3 e2
 ·rw[hat]at h2
  have h3:(match toK T g with|some k=>C1.ι k|none=>C.ι g)=some b:=h3
  cases hg:toK T g with
  | none=>rw[hg]at h2 h3;exact .inr ⟨g,h2,h3⟩
  | some k =>
   rw[hg]at h3
   rcases ownB k b (mutR g k hg) h3 with q|⟨g0,q1,q2,_⟩
   ·exact .inl q
   ·exact .inr ⟨g0,q1,q2⟩
 ·rcases hx.supN b hb with q|q|⟨k,q1,q2⟩
  ·exact .inl q
  ·exact .inr (.inl q)
  ·obtain⟨g,_,e2,e3⟩:=mutK k b q1 q2
   exact .inr (.inr ⟨g,e3,e2⟩)
 ·rw[hat]
  show BoxOK _ _ (match toK T g with|some k=>C1.ι k|none=>C.ι g) _
  cases hg:toK T g with
  | none =>
   by_cases hgo:m.at g = .gone
   ·simp only[hgo];trivial
   ·exact BoxOK.upd (hh.box g) (fun b hb=>keepG g b hg hgo hb) hd hs hx.sS hx.sN
  | some k =>
   obtain⟨nw1,sz1,xs1,f1⟩:=zcV hb' (zbo hg)
   have hb:=h1.box k
   rw[f1]at hb
   simp only[f1,inB]
   cases hi:C1.ι k with
   | none=>rw[hi]at hb;exact hb
   | some b=>rw[hi]at hb;exact hb
 ·rw [hat]at h2 h3
  have i1:(match toK T g with|some k=>C1.ι k|none=>C.ι g)=some b:=i1
  have i2:(match toK T g' with|some k=>C1.ι k|none=>C.ι g')=some b:=i2
  cases hg:toK T g with
  | none =>
   cases hg':toK T g' with
   | none =>
    rw[hg]at h2 i1
    rw[hg']at h3 i2
    exact hh.inj g g' b h2 h3 i1 i2
   | some k' =>
    rw[hg]at h2 i1
    rw[hg']at i2
    exact(cross g' g k' b hg' hg h2 i2 i1).elim
  | some k =>
   cases hg':toK T g' with
   | none =>
    rw[hg]at i1
    rw[hg']at h3 i2
    exact(cross g g' k b hg hg' h3 i1 i2).elim
   | some k' =>
    rw[hg]at i1
    rw[hg']at i2
    have hm:mk'.at k ≠ .gone:=by intro h;have:=mutR g k hg;rw[h]at this;cases this
    have hm':mk'.at k' ≠ .gone:=by intro h;have:=mutR g' k' hg';rw[h]at this;cases this
    have:=h1.inj k k' b hm hm' i1 i2
    subst this
    have q1:=(toGK ht).2 hg
    have q2:=(toGK ht).2 hg'
    rw[q1]at q2
    injection q2
 ·have h3:(match toK T g with|some k=>C1.ι k|none=>C.ι g)=some b:=h3
  have h4:C1.S b:=h4
  rw[hat]at h2
  cases hg:toK T g with
  | some k =>
   rw[hg]at h3
   exact h1.sep k b (mutR g k hg) h3 h4
  | none =>
   rw[hg]at h2 h3
   have hgo:m.at g ≠ .gone:=by intro h;rw[h]at h2;cases h2
   rcases hx.supS b h4 with q|q
   ·exact hh.sep g b h2 h3 q
   ·rcases hx.supN b q with q|q|⟨k0,q1,q2⟩
    ·exact hh.sep g b h2 h3 (hh.ns b q)
    ·have q:C.w.heap.size≤b:=q
     have:=lt hgo h3;omega
    ·obtain⟨g0,e1,e2,e3⟩:=mutK k0 b q1 q2
     have hne:m.at g0 ≠ .gone:=by intro h;rw[h]at e3;cases e3
     have:=hh.inj g0 g b hne hgo e2 h3
     subst this
     rw[(toGK ht).1 e1]at hg
     cases hg
end
section
variable {P : Program} {e : Operand → D} {m : Mem} {dst : Option Tmp} {ty : TypeId} {pos : String} {af : Array Edge} {gd : Option (Nat × Bool)} {x y : Operand} {t : TypeId}
theorem zo0 {f:FuncId} {args:Array Operand} {ats:Array TypeId} {ds:List D} {ver sz sz':Nat} {nw nw':Bool} {xs xs':List (List V)} (g:Nat) (hc:FnI P f ds [(1000,.row 0 false nw sz xs)] [(1000,.row 0 false nw' sz' xs')])
  (ha:zft m [(1000,g)] (args.toList.map e)=some ds) (hmg:m.at g = .row ver false nw sz xs) :
  SStep P ⟨dst,.call { callee := .value (.func f),args:=args,argTypes:=ats },ty,pos,af,gd⟩ e m ((args.toList.map e).flatMap (refs m)) .any [(g,.row ver false nw' sz' xs')]:=by
 intro C m' a next Q hag hm hx hn
 have hmg':m'.at g = .row ver false nw sz xs:=(hag g (.inr (by simp))).trans hmg
 have ht:okT [(1000,g)]=true:=rfl
 have hl:zdv m' [(1000,.row 0 false nw sz xs)] [(1000,g)]:=⟨.inr ⟨ver,nw,sz,xs,rfl,hmg'⟩,trivial⟩
 have hagT:∀ g',g'∈(args.toList.map e).flatMap (refs m)∨g'∈([(1000,g)]:Tr).map (·.2)→m'.at g'=m.at g':=fun g' hg=>by
  rcases hg with hg|hg
  ·exact hag g' (.inl hg)
  ·exact hag g' (.inr (by simpa using hg))
 obtain⟨hlen,hall⟩:=ziV hm ht hl (args.toList.map e) ds hagT ha
 have hrun:(execOp a.eval ⟨dst,.call { callee := .value (.func f),args:=args,argTypes:=ats },ty,pos,af,gd⟩).run P C.w = .ok (.enter f (args.map a.eval)) C.w:=by
  have hev:a.eval (.func f) = .func (.func f) #[] #[]:=rfl
  simp only[execOp,resolve,hev,Deferred.ofValue,Sem.run_bind,Sem.run_pure,Result.andThen_ok,invoke,za6 hc.1]
  simp
 unfold Oper.wp
 rw[hrun]
 show Calls P f (args.map a.eval) C.w _
 refine(hc.2 (ze3 C [(1000,g)]) (args.map a.eval) (lent_holds hm ht hl rfl) (by rw[hlen];simp) ?_).mono ?_
 ·intro j d v hd hv
  simp only[Array.getElem?_map,Option.map_eq_some_iff]at hv
  obtain⟨o,ho,rfl⟩:=hv
  have ho':(args.toList.map e)[j]? = some (e o):=by simp[ho]
  exact hall j (e o) d _ ho' hd (hx o (by simp only[Op.operands,Call.operands];exact Array.mem_append.2 (.inr (Array.mem_of_getElem? ho))))
 ·rintro e' w' ⟨v,C1,rfl,rfl,hst⟩
  have h2:=znr hm ht hl rfl rfl ⟨⟨nw',sz',xs',rfl⟩,trivial⟩ hst
  have e1:inM m' [(1000,.row 0 false nw' sz' xs')] [(1000,g)]=[(g,.row ver false nw' sz' xs')]:=by
   have:Mem.at [(1000,Box.row 0 false nw' sz' xs')] 1000 = .row 0 false nw' sz' xs':=rfl
   simp[inM,inB,hmg',zcR,this]
  rw[e1]at h2
  exact hn v (zgL C C1 [(1000,g)]) h2 trivial
end
end Go.Proofs.YtcdhlofhhcgohaaGreat
namespace Go.Proofs.YtcdhlofhhcgohaaGreat
open Go.RowKit
section
variable {P : Program} {e : Operand → D} {m : Mem} {dst : Option Tmp} {ty : TypeId} {pos : String} {af : Array Edge} {gd : Option (Nat × Bool)} {x y z : Operand} {t : TypeId} {yt : TypeId}
theorem zbQ {g n:Nat} {el:Nat} [hu:SlcI P t el] (h:e x = .sl g n) :
  SStep P ⟨dst,.call { callee := .builtin .len,args := #[x],argTypes := #[t] },ty,pos,af,gd⟩ e m [] (.dat true (.int .i64 n)) [] :=
 .pure fun C m' ac ha hh hx=>by
  have g1:=hx x (by simp[Op.operands,Call.operands]);rw[h]at g1
  refine⟨.int .i64 n,?_,zbB⟩
  obtain⟨frz,nw,cs,b,cap,hat,hi,hv,_⟩:=g1
  simp[execOp,resolve,invoke,builtin,Builtin.len_,zao hu.out,hv,goInt]
theorem zdE {n':Bool} {k:IntKind} {i:Int} {el s by_ g n:Nat} {agg:Bool} {zs:List V} [hu:SlcI P t el] [ht:TyI P el agg s by_ zs]
  (h1:e x = .sl g n) (h2:e y = .dat n' (.int k i)) (hi:0≤i) (hc:i<n) :
  SStep P ⟨dst,.indexAddr t x y,ty,pos,af,gd⟩ e m [] (.ptr g (i.toNat*s)) [] :=
 .pure fun C m' ac ha hh hx=>by
  have g1:=hx x (by simp[Op.operands]);rw[h1]at g1
  have g2:=hx y (by simp[Op.operands]);rw[h2]at g2
  have g2:=zbq g2
  obtain⟨frz,nw,cs,b,cap,hat,hio,hv,_⟩:=g1
  refine⟨.pointer (some ⟨b,0+i.toNat*s,none⟩),?_,⟨frz,nw,cs,b,hat,hio,by rw[Nat.zero_add]⟩⟩
  simp only[execOp,hv,g2,Instr.indexAt,asIntOf,Sem.run_bind,Sem.run_pure,Result.andThen_ok,zao hu.out]
  simp only[hi,hc,and_self,if_true,Sem.run_bind,zaS ht,Result.andThen_ok,Sem.run_pure,aadd]
theorem ztY {el by_ l:Nat} {n1 n2:Bool} {k1 k2:IntKind} {z:V} {a b:Int} (g:Nat) [hu:SlcI P t el] [ht:TyI P el false 1 by_ [z]] (h1:e x = .dat n1 (.int k1 a)) (h2:e y = .dat n2 (.int k2 b)) (ha:a=(l:Int)) (hb:b=(l:Int))
  (hby:l*(by_+1)≤140737488355328) (hg:m.at g = .gone) :
  SStep P ⟨dst,.makeSlice t x y,ty,pos,af,gd⟩ e m [] (.sl g l) [(g,.cells false true (List.replicate l z.zD))]:=by
 intro C m' ac next Q hag hm hx hn
 have g1:=zbq (by have:=hx x (by simp[Op.operands]);rwa[h1]at this)
 have g2:=zbq (by have:=hx y (by simp[Op.operands]);rwa[h2]at this)
 obtain⟨i,hi,hsz,hbt,hz⟩:=ht.info
 have hb1:l*by_≤140737488355328:=Nat.le_trans (Nat.mul_le_mul_left _ (Nat.le_succ _)) hby
 have hb2:l≤140737488355328:=by
  have:l*1≤l*(by_+1):=Nat.mul_le_mul_left _ (by omega)
  omega
 have hrun:=run_make (P:=P) C.w t el i _ hu.out hi hz k1 k2 l l (by omega) (by omega) (by
  rw[hbt]
  have:((by_*l:Nat):Int)≤281474976710656:=by rw[Nat.mul_comm];omega
  rwa[Int.natCast_mul]at this) (by omega)
 simp only[Int.toNat_natCast,hsz]at hrun
 have hexec:(execOp ac.eval ⟨dst,.makeSlice t x y,ty,pos,af,gd⟩).run P C.w = .ok (.value (.slice (some ⟨C.w.heap.size,0,none⟩) l l)) (C.w.alloc (.cells (madeCells (zval false [z]).cells (l*1)) el)):=by
  simp[execOp,g1,g2,ha,hb,hrun]
 have hg':m'.at g = .gone:=(hag g (by simp)).trans hg
 have hz0:=zcells ht
 have hzc:=ht.zc
 rw[List.all_eq_true]at hzc
 have hst:=step_cells (g:=g) (cs:=List.replicate l z.zD) (arr:=madeCells (zval false [z]).cells (l*1)) (T:=el) hm hg' (Grew.refl C.w) rfl (by rw[size_madeCells];simp) (fun j d c hd hc=>by
  rw[List.getElem?_replicate]at hd
  split at hd
  ·rename_i hj
   injection hd with hd
   subst hd
   rw[zdA (by omega),hz0]at hc
   simp[Nat.mod_one]at hc
   rw[←hc]
   exact val_ok (hzc z (by simp))
  ·cases hd)
 refine zaC hexec (hn _ _ hst ?_)
 refine⟨false,true,List.replicate l z.zD,C.w.heap.size,l,Mem.at_cons_same _ _ _,by rw[Cf.set_same],rfl,Nat.le_refl _,by unfold maxLen;omega⟩
end
theorem zi9 {P:Program} {c:Code} {Q:Exit→St→Prop} {env:Env} {mem:Mem} {n:Nat} (t:Nat) (d':D) (h:∀ (C:Cf) (v:Value),HoldsM C mem→RdD C mem (env.at t) v→RdD C mem d' v)
  (k:DW P c Q ⟨(t,d')::env,mem,n⟩):DW P c Q ⟨env,mem,n⟩ :=
 zaZ (s':=⟨(t,d')::env,mem,n⟩) (fun C a hh=>⟨C,rfl,⟨hh.mem,hh.defers,hh.size,fun t'=>by
  show RdD C mem (look .any ((t,d')::env) t') _
  rw[zai]
  by_cases ht:t=t'
  ·subst ht;rw[if_pos rfl];exact h C _ hh.mem (hh.env t)
  ·rw[if_neg ht];exact hh.env t'⟩,.refl _ _⟩) k
theorem zcW {α:Type} {sz:Nat}:∀ (xs:List (List α)),(∀ (i:Nat) e,xs[i]? = some e→e.length=sz)→∀ (i j:Nat),j<sz→xs.flatten[i*sz+j]? = (xs[i]?).bind (·[j]?)
 | [],_,_,_,_=>by simp
 | x::r,h,i,j,hj=>by
  have hx:=h 0 x rfl
  rw[List.flatten_cons,List.getElem?_append]
  cases i with
  | zero=>simp[hx,hj]
  | succ i =>
   have hn:¬(i+1)*sz+j<x.length:=by rw[hx,Nat.add_mul];omega
   rw[if_neg hn,hx,show(i+1)*sz+j-sz=i*sz+j by rw[Nat.add_mul];omega,zcW r (fun i e he=>h (i+1) e he) i j hj]
   simp
theorem zcX {α:Type} {sz:Nat}:∀ (xs:List (List α)),(∀ (i:Nat) e,xs[i]? = some e→e.length=sz)→xs.flatten.length=xs.length*sz
 | [],_=>by simp
 | x::r,h=>by
  have:=h 0 x rfl
  rw[List.flatten_cons,List.length_append,zcX r (fun i e he=>h (i+1) e he),this,List.length_cons,Nat.add_mul];omega
/-! A row is a box of cells from here on. -/
def cvD (g ver:Nat):D→D
 | .own g' v lo len=>bif Nat.beq g g' then(bif Nat.beq v ver && Nat.beq lo 0 then .sl g len else .any)else .own g' v lo len
 | .rptr g' v i off=>bif Nat.beq g g' then .any else .rptr g' v i off
 | .grd _ _=>.any
 | .aggd _=>.any
 | .fnd _ _=>.any
 | d=>d
def cvB (g ver:Nat):Box→Box
 | .cells frz nw cs=>.cells frz nw (cs.map (cvD g ver))
 | b=>b
def cvE (g ver:Nat) (e:Env):Env:=e.map fun p=>(p.1,cvD g ver p.2)
def cvM (g ver:Nat):Mem→Mem
 | []=>[]
 | (k,b)::r=>bif Nat.beq g k then cvM g ver r else(k,cvB g ver b)::cvM g ver r
theorem zsg (g ver:Nat):∀ (e:Env) (t:Nat),Env.at (cvE g ver e) t=cvD g ver (e.at t)
 | [],_=>rfl
 | (k,d)::r,t=>by
  show look .any ((k,cvD g ver d)::cvE g ver r) t=_
  rw[zai]
  show _=cvD g ver (look .any ((k,d)::r) t)
  rw[zai]
  by_cases h:k=t
  ·rw[if_pos h,if_pos h]
  ·rw[if_neg h,if_neg h];exact zsg g ver r t
theorem zo1 (g ver:Nat):∀ (m:Mem) (t:Nat),g≠t→Mem.at (cvM g ver m) t=cvB g ver (m.at t)
 | [],_,_=>rfl
 | (k,d)::r,t,hgt=>by
  rw[show Mem.at ((k,d)::r) t=look .gone ((k,d)::r) t from rfl,zai]
  simp only[cvM]
  cases hb:Nat.beq g k with
  | true =>
   have:=Nat.eq_of_beq_eq_true hb
   subst this
   rw[if_neg hgt]
   exact zo1 g ver r t hgt
  | false =>
   show look .gone ((k,cvB g ver d)::cvM g ver r) t=_
   rw[zai]
   by_cases h:k=t
   ·rw[if_pos h,if_pos h]
   ·rw[if_neg h,if_neg h];exact zo1 g ver r t hgt
theorem ztZ {P:Program} {c:Code} {Q:Exit→St→Prop} {s s':St} (h:SWk s s') (k:DW P c Q s'):DW P c Q s :=
 zaZ (fun C _a hh=>⟨C,rfl,h.holds hh,(Step.ofSW h hh).ext⟩) k
theorem zcY {P:Program} {c:Code} {Q:Exit→St→Prop} {env:Env} {mem:Mem} {n:Nat} (g:Nat) {bx:Box} (_:mem.at g=bx) (k:Unit→DW P c Q ⟨env,mem,n⟩):DW P c Q ⟨env,mem,n⟩:=k ()
/-! Boxes renamed, by functions. -/
theorem zmG {s e:St} (ρ:Nat→Option Nat) (hn:s.n=e.n) (hinj:∀ g g' a,e.mem.at g ≠ .gone→e.mem.at g' ≠ .gone→ρ g=some a→ρ g'=some a→g=g')
  (hbox:∀ g,zdP s.mem e.mem ρ g (e.mem.at g)) (he:∀ t,zbX s.mem e.mem ρ (s.env.at t) (e.env.at t)):Wk s e:=by
 intro C a hh
 have hlive:∀ g b,e.mem.at g ≠ .gone→(ρ g).bind C.ι=some b→∃ g0,ρ g=some g0∧C.ι g0=some b∧s.mem.at g0 ≠ .gone∧(s.mem.at g0).mut=(e.mem.at g).mut:=by
  intro g b hg hi
  have hb:=hbox g
  cases hbx:e.mem.at g with
  | gone=>exact absurd hbx hg
  | row ver frz nw sz xs =>
   rw[hbx]at hb
   simp only[zdP]at hb
   cases hρ:ρ g with
   | none=>simp[hρ]at hi
   | some g0 =>
    rw[hρ]at hb hi
    obtain⟨ver0,hs⟩:=hb
    exact⟨g0,rfl,hi,by rw[hs];simp,by rw[hs];rfl⟩
  | cells frz nw cs =>
   rw[hbx]at hb
   obtain⟨g0,cs0,hρ,hs,_⟩:=hb
   rw[hρ]at hi
   exact⟨g0,hρ,hi,by rw[hs];simp,by rw[hs];rfl⟩
  | mapb kt et es =>
   rw[hbx]at hb
   obtain⟨g0,hρ,hs⟩:=hb
   rw[hρ]at hi
   exact⟨g0,hρ,hi,by rw[hs];simp,by rw[hs]⟩
 refine⟨{ C with ι:=fun g=>(ρ g).bind C.ι },rfl,⟨⟨fun g=>?_,?_,?_,hh.mem.sdom,hh.mem.ns⟩,hh.defers,hh.size.trans hn,fun t=>zgG hh.mem (he t) (hh.env t)⟩,?_⟩
 ·have hb:=hbox g
  show BoxOK _ _ ((ρ g).bind C.ι) _
  cases hbx:e.mem.at g with
  | gone=>trivial
  | row ver frz nw sz xs =>
   rw[hbx]at hb
   simp only[zdP]at hb
   cases hρ:ρ g with
   | none =>
    rw[hρ]at hb
    exact hb.1
   | some g0 =>
    rw[hρ]at hb
    obtain⟨ver0,hs⟩:=hb
    have h0:=hh.mem.box g0
    rw[hs]at h0
    simp only[Option.bind_some]
    cases hi:C.ι g0 with
    | none=>rw[hi]at h0;exact h0
    | some b=>rw[hi]at h0;exact h0
  | cells frz nw cs =>
   rw[hbx]at hb
   obtain⟨g0,cs0,hρ,hs,hl⟩:=hb
   have h0:=hh.mem.box g0
   rw[hs]at h0
   obtain⟨b,hi,arr,T,fz,h1,h2,h3,h4,h5⟩:=h0
   obtain⟨hlen,hget⟩:=zdu hl
   refine⟨b,by simp[hρ,hi],arr,T,fz,h1,h2,by omega,fun j d c hd hc=>?_,h5⟩
   have hj:j<cs0.length:=by have:=(List.getElem?_eq_some_iff.1 hd).1;omega
   have hcs:cs0[j]? = some cs0[j]:=List.getElem?_eq_getElem hj
   exact zmq hh.mem (hget j cs0[j] d hcs hd) (h4 j cs0[j] c hcs hc)
  | mapb kt et es =>
   rw[hbx]at hb
   obtain⟨g0,hρ,hs⟩:=hb
   have h0:=hh.mem.box g0
   rw[hs]at h0
   obtain⟨b,hi,h0⟩:=h0
   exact⟨b,by simp[hρ,hi],h0⟩
 ·intro g g' b h1 h2 i1 i2
  obtain⟨g0,q1,q2,q3,_⟩:=hlive g b h1 i1
  obtain⟨g1,r1,r2,r3,_⟩:=hlive g' b h2 i2
  have:=hh.mem.inj g0 g1 b q3 r3 q2 r2
  subst this
  exact hinj g g' g0 h1 h2 q1 r1
 ·intro g b h1 h2
  have hg:e.mem.at g ≠ .gone:=by intro h;rw[h]at h1;cases h1
  obtain⟨g0,q1,q2,q3,q4⟩:=hlive g b hg h2
  exact hh.mem.sep g0 b (by rw[q4];exact h1) q2
 ·refine⟨rfl,rfl,rfl,Nat.le_refl _,fun _ _ _=>rfl,fun g b h1 h2=>?_,fun _ h=>h,fun _ h=>h,fun _ h=>.inl h,fun _ h=>.inl h⟩
  have hg:e.mem.at g ≠ .gone:=by intro h;rw[h]at h1;cases h1
  obtain⟨g0,q1,q2,q3,q4⟩:=hlive g b hg h2
  exact .inr ⟨g0,by rw[q4];exact h1,q2⟩
theorem zib {env:Env} {mem mem':Mem} {n:Nat} (p:Nat→Bool) (hat:∀ g,mem'.at g=if p g=true then zbb (mem.at g)else mem.at g) (hk:∀ g kt et es,p g=true→mem.at g ≠ .mapb kt et es):Wk ⟨env,mem,n⟩ ⟨env,mem',n⟩:=by
 intro C a hh
 let X:Nat→Prop:=fun b=>∃ g,p g=true∧(mem.at g).mut=true∧C.ι g=some b
 let C':Cf := { C with S:=fun b=>C.S b∨X b,N:=fun b=>C.N b∨X b }
 have hD:∀ nw b,C.D nw b→C'.D nw b:=fun nw b h=>by cases nw<;>exact .inl h
 have hd:∀ n x v,RdF C n x v→RdF C' n x v:=fun n x v h=>Rd.mono h (hD n) (fun _ _=>rfl)
 have hs:∀ d v,RdS C mem d v→RdS C' mem' d v:=by
  intro d v h
  cases d with
  | any=>trivial
  | nil=>exact h
  | dat n x=>exact hd n x v h
  | own g' ver lo len =>
   obtain⟨ver',frz,nw,sz,xs,h1,h2,h3,h4⟩:=h
   by_cases hg:p g'=true
   ·exact⟨ver',true,nw,sz,xs,by rw[hat,if_pos hg,h1];rfl,h2,h3,h4⟩
   ·exact⟨ver',frz,nw,sz,xs,by rw[hat,if_neg hg];exact h1,h2,h3,h4⟩
  | ptr g' off =>
   obtain⟨frz,nw,cs,b,h1,h2,h3⟩:=h
   by_cases hg:p g'=true
   ·exact⟨true,nw,cs,b,by rw[hat,if_pos hg,h1];rfl,h2,h3⟩
   ·exact⟨frz,nw,cs,b,by rw[hat,if_neg hg];exact h1,h2,h3⟩
  | sl g' n =>
   obtain⟨frz,nw,cs,b,cap,h1,h2,h3⟩:=h
   by_cases hg:p g'=true
   ·exact⟨true,nw,cs,b,cap,by rw[hat,if_pos hg,h1];rfl,h2,h3⟩
   ·exact⟨frz,nw,cs,b,cap,by rw[hat,if_neg hg];exact h1,h2,h3⟩
  | rptr g' ver i off =>
   obtain⟨ver',frz,nw,sz,xs,h1,h2,h3,h4⟩:=h
   by_cases hg:p g'=true
   ·exact⟨ver',true,nw,sz,xs,by rw[hat,if_pos hg,h1];rfl,h2,h3,h4⟩
   ·exact⟨ver',frz,nw,sz,xs,by rw[hat,if_neg hg];exact h1,h2,h3,h4⟩
  | mp g' =>
   obtain⟨kt,et,es,b,h1,h2,h3⟩:=h
   have hg:¬p g'=true:=fun hp=>hk g' _ _ _ hp h1
   exact⟨kt,et,es,b,by rw[hat,if_neg hg];exact h1,h2,h3⟩
  | _=>exact h.elim
 have hmutne:∀ g',(mem'.at g').mut=true→¬p g'=true∧(mem.at g').mut=true:=by
  intro g' h
  rw[hat]at h
  by_cases hg:p g'=true
  ·rw[if_pos hg]at h
   cases hb:mem.at g' with
   | mapb kt et es=>exact absurd hb (hk _ _ _ _ hg)
   | _=>rw[hb]at h;simp[zbb,Box.mut]at h
  ·rw[if_neg hg]at h
   exact⟨hg,h⟩
 have hgone:∀ g',mem'.at g' ≠ .gone→mem.at g' ≠ .gone:=by
  intro g' h
  rw[hat]at h
  by_cases hg:p g'=true
  ·rw[if_pos hg]at h
   intro h0
   rw[h0]at h
   exact h rfl
  ·rwa[if_neg hg]at h
 refine⟨C',rfl,⟨⟨fun g'=>?_,fun g1 g2 b h1 h2=>hh.mem.inj g1 g2 b (hgone g1 h1) (hgone g2 h2),fun g' b h1 h2 h3=>?_,fun b hb=>?_,fun b hb=>hb.imp (hh.mem.ns b) id⟩,hh.defers,hh.size,fun t=>RdD.of_S hs _ _ (hh.env t)⟩,?_⟩
 ·have h0:=BoxOK.upd (hh.mem.box g') (C':=C') (fun _ _=>rfl) hd hs (fun b h=>.inl h) (fun b h=>.inl h)
  show BoxOK C' mem' (C.ι g') (mem'.at g')
  rw[hat]
  by_cases hg:p g'=true
  ·rw [if_pos hg]
   cases hb:mem.at g' with
   | cells frz nw cs =>
    rw[show St.mem ⟨env,mem,n⟩=mem from rfl,hb]at h0
    obtain⟨b,hi,arr,T,fz,h1,h2,h3,h4,h5⟩:=h0
    refine⟨b,hi,arr,T,fz,h1,h2,h3,h4,fun _=>?_⟩
    cases frz with
    | true=>exact h5 rfl
    | false =>
     have hx:X b:=⟨g',hg,by rw[hb];rfl,hi⟩
     cases nw<;>exact .inr hx
   | row ver frz nw sz xs =>
    rw[show St.mem ⟨env,mem,n⟩=mem from rfl,hb]at h0
    cases hi:C.ι g' with
    | none=>rw[hi]at h0;exact h0
    | some b =>
     rw[hi]at h0
     obtain⟨arr,T,fz,h1,h2,h3,h4,h5,h6,h7⟩:=h0
     refine⟨arr,T,fz,h1,h2,h3,h4,h5,h6,fun _=>?_⟩
     cases frz with
     | true=>exact h7 rfl
     | false=>exact .inr ⟨g',hg,by rw[hb];rfl,hi⟩
   | mapb kt et es=>exact absurd hb (hk _ _ _ _ hg)
   | gone=>trivial
  ·rw[if_neg hg]
   exact h0
 ·obtain ⟨hg,hmt⟩:=hmutne g' h1
  rcases h3 with h3|⟨g,hp,h3,h4⟩
  ·exact hh.mem.sep g' b hmt h2 h3
  ·refine hg ?_
   have:=hh.mem.inj g g' b ?_ ?_ h4 h2
   ·rw[←this];exact hp
   ·intro h0
    have h0:mem.at g = .gone:=h0
    rw[h0]at h3;cases h3
   ·intro h0
    have h0:mem.at g' = .gone:=h0
    rw[h0]at hmt;cases hmt
 ·rcases hb with hb|⟨g,_,h1,h2⟩
  ·exact hh.mem.sdom b hb
  ·exact BoxOK.lt hh.mem (g:=g) (by intro h0;have h0:mem.at g = .gone:=h0;rw[h0]at h1;cases h1) h2
 ·refine⟨rfl,rfl,rfl,Nat.le_refl _,fun _ _ _=>rfl,fun g' b h1 h2=>.inr ⟨g',(hmutne g' h1).2,h2⟩,fun _ h=>.inl h,fun _ h=>.inl h,fun b hb=>?_,fun b hb=>?_⟩
  ·rcases hb with hb|hb
   ·exact .inl hb
   ·exact .inr (.inr hb)
  ·rcases hb with hb|⟨g,_,h1,h2⟩
   ·exact .inl hb
   ·exact .inr (.inr ⟨g,h1,h2⟩)
theorem zq2 {C:Cf} {m:Mem} {g n sz:Nat} {v:Value} {fl nw:Bool} {cs:List D} (hm:HoldsM C m) (hg:m.at g = .cells true nw cs) (hnw:fl=true→nw=true) (xs:List (List V))
  (hsz:∀ (i:Nat) (e:List V),xs[i]? = some e→e.length=sz)
  (hc:∀ (i j:Nat) (e:List V) (x:V),xs[i]? = some e→e[j]? = some x→x.one=true∧∃ d n',cs[i*sz+j]? = some d∧asV0 m d=some (n',x)∧(fl=true→n'=true∨x.isI=true))
  (hl:n=xs.length) (h:RdS C m (.sl g n) v):RdF C fl (.slice xs) v:=by
 obtain⟨frz,nw',cs',b,cap,e1,hi,rfl,hle,hmx⟩:=h
 have hb:=hm.box g
 rw[hg]at hb
 obtain⟨b',hi',arr,T,fz,h1,h2,h3,h4,h5⟩:=hb
 rw[hi]at hi'
 injection hi' with hi'
 subst hi'
 have hS:C.D fl b:=by
  have:=h5 rfl
  cases fl with
  | true=>rw[hnw rfl]at this;exact this
  | false =>
   cases nw with
   | true=>exact hm.ns b this
   | false=>exact this
 subst hl
 have key:∀ (i j:Nat) (e:List V) (x:V),xs[i]? = some e→e[j]? = some x→arr[i*sz+j]? = some (arr.getD (i*sz+j) undef)∧RdF C fl x (arr.getD (i*sz+j) undef):=by
  intro i j e x hx hj
  obtain⟨_,d,n',hd,hv,hf⟩:=hc i j e x hx hj
  have hlt:i*sz+j<arr.size:=by have:=(List.getElem?_eq_some_iff.1 hd).1;omega
  have ha:arr[i*sz+j]? = some (arr.getD (i*sz+j) undef):=by simp[hlt]
  refine⟨ha,?_⟩
  have hr:=zeE hm (fun _ _=>rfl) hv (h4 _ _ _ hd ha).rd
  cases fl with
  | false=>exact hr.weak hm
  | true =>
   have hr:=hr.word
   rcases hf rfl with q|q
   ·rw[q]at hr;exact hr
   ·rw[q,Bool.or_true]at hr;exact hr
 refine Rd.slice xs b 0 cap sz (fun i j=>arr.getD (i*sz+j) undef) hle hmx hsz (fun i j e d q1 q2=>(hc i j e d q1 q2).1) (fun _=>hS) (fun i j e d q1 q2=>?_) (fun i j e d q1 q2=>(key i j e d q1 q2).2)
 rw[Nat.zero_add,zaz h1]
 exact(key i j e d q1 q2).1
end Go.Proofs.YtcdhlofhhcgohaaGreat
