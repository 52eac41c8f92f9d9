/- Calls with rows of one's own: lent to the callee, or handed back by it. A contract (FnG), from the code, at the call. -/
import Derived.Test.YtcdhlofhhcgohaaGreatwbApp
namespace Go.Proofs.YtcdhlofhhcgohaaGreat
open Go.RowKit
def FnG (P:Program) (f:FuncId) (ds:List D) (m:Mem) (r:D) (m':Mem):Prop:=Callable P f ∧
 ∀ (C:Cf) (vs:Array Value),HoldsM C m→vs.size=ds.length→(∀ (j:Nat) d v,ds[j]? = some d→vs[j]? = some v→RdD C m d v) →
  Calls P f vs C.w fun e w'=>∃ v C',e = .returned v∧C'.w=w'∧Ext C m C' m'∧HoldsM C' m'∧RdD C' m' r v
def envD : Nat→List D→Env
 | _,[]=>[]
 | i,d::r=>(i,d)::envD (i+1) r
theorem ziT : ∀ (ds:List D) (i t:Nat),Env.at (envD i ds) t=if i≤t then(match ds[t-i]? with|some d=>d|none=>.any)else .any
 | [],i,t=>by simp[envD,Env.at,look]
 | d::r,i,t=>by
  have ih:=ziT r (i+1) t
  by_cases h:i=t
  ·subst h
   rw[if_pos (Nat.le_refl _),Nat.sub_self]
   exact zcP _ _ _ _
  ·have:Env.at (envD i (d::r)) t=Env.at (envD (i+1) r) t:=zcL _ _ _ _ _ h
   rw[this,ih]
   by_cases h2:i+1≤t
   ·rw[if_pos h2,if_pos (by omega)]
    obtain⟨q,hq⟩:∃ q,t-i=q+1:=⟨t-i-1,by omega⟩
    rw[hq,List.getElem?_cons_succ,show t-(i+1)=q by omega]
   ·rw[if_neg h2,if_neg (by omega)]
inductive RetD (P:Program) (s:St):List ResultVar→List V→Prop
 | nil:RetD P s [] []
 | tmp {t:Tmp} {n:Bool} {x:V} {rs:List ResultVar} {xs:List V} (h:asV s.mem (s.env.at t)=some (n,x)) (r:RetD P s rs xs):RetD P s (.tmp t::rs) (x::xs)
 | cellA {a:Tmp} {T:TypeId} {sz by_ g:Nat} {zs:List V} {frz nw n:Bool} {cs:List D} {ys:List V} {rs:List ResultVar} {xs:List V} (ht:TyI P T true sz by_ zs) (h:s.env.at a = .ptr g 0) (hm:s.mem.at g = .cells frz nw cs)
   (hc:asVs s.mem cs=some (n,ys)) (hl:Nat.beq cs.length sz=true) (r:RetD P s rs xs):RetD P s (.cell a T::rs) (.agg ys::xs)
theorem zsC {P:Program} {C:Cf} {s:St} {a:Act} (h:Holds C s a) {rs:List ResultVar} {xs:List V} (hr:RetD P s rs xs) :
  ∃ vs:List Value,vs.length=rs.length∧xs.length=rs.length∧(∀ (j:Nat) x v,rs[j]? = some x→vs[j]? = some v→(zb6 a.tmps x).run P C.w = .ok v C.w) ∧
   (∀ (j:Nat) x v,xs[j]? = some x→vs[j]? = some v→RdF C false x v):=by
 have glue:∀ {r:ResultVar} {rs:List ResultVar} {x:V} {xs:List V} {v:Value},(zb6 a.tmps r).run P C.w = .ok v C.w→RdF C false x v →
   (∃ vs:List Value,vs.length=rs.length∧xs.length=rs.length∧(∀ (j:Nat) x v,rs[j]? = some x→vs[j]? = some v→(zb6 a.tmps x).run P C.w = .ok v C.w)∧(∀ (j:Nat) x v,xs[j]? = some x→vs[j]? = some v→RdF C false x v)) →
   ∃ vs:List Value,vs.length=(r::rs).length∧(x::xs).length=(r::rs).length∧(∀ (j:Nat) x v,(r::rs)[j]? = some x→vs[j]? = some v→(zb6 a.tmps x).run P C.w = .ok v C.w)∧(∀ (j:Nat) y v,(x::xs)[j]? = some y→vs[j]? = some v→RdF C false y v):=by
  rintro r rs x xs v h1 h2 ⟨vs,l1,l2,r1,r2⟩
  refine⟨v::vs,by simp[l1],by simp[l2],fun j y u hy hu=>?_,fun j y u hy hu=>?_⟩
  ·cases j with
   | zero=>simp at hy hu;subst hy;subst hu;exact h1
   | succ j=>exact r1 j y u (by simpa using hy) (by simpa using hu)
  ·cases j with
   | zero=>simp at hy hu;subst hy;subst hu;exact h2
   | succ j=>exact r2 j y u (by simpa using hy) (by simpa using hu)
 induction hr with
 | nil=>exact⟨[],rfl,rfl,by simp,by simp⟩
 | @tmp t n x rs xs hx r ih=>exact glue (by rfl) ((zcF h.mem (fun _ _=>rfl) hx (h.env t)).weak h.mem) ih
 | @cellA t T sz by_ g zs frz nw n cs ys rs xs ht hp hm hc hl r ih =>
  have hp':=h.env t
  rw[hp]at hp'
  obtain⟨frz',nw',cs',b,hat,hi,hv⟩:=hp'
  have hb:=h.mem.box g
  rw[hm]at hb hat
  injection hat with e1 e2 e3
  subst e1;subst e2;subst e3
  obtain⟨b',hi',arr,T',fz,h1,h2,h3,h4,h5⟩:=hb
  rw[hi]at hi'
  injection hi' with hi'
  subst hi'
  have hl:=Nat.eq_of_beq_eq_true hl
  obtain⟨hlen,hall⟩:=zfo h.mem cs n ys (fun _ _=>rfl) hc
  have hcell:∀ j,j<sz→arr[j]? = some (arr.getD j undef):=fun j hj=>by
   have:j<arr.size:=by omega
   simp[Array.getElem?_eq_getElem this]
  have hrd:RdF C n (.agg ys) (.agg ((List.range sz).map fun j=>arr.getD j undef).toArray):=by
   refine Rd.agg ys _ (by simp;omega) (fun j d c hd hcv=>?_)
   have hj:j<sz:=by have:=(List.getElem?_eq_some_iff.1 hd).1;omega
   have hce:c=arr.getD j undef:=by simpa[hj]using hcv.symm
   subst hce
   have hcs:cs[j]? = some (cs[j]'(by omega)):=List.getElem?_eq_getElem _
   exact hall j _ d _ hcs hd (h4 _ _ _ hcs (hcell j hj))
  refine glue (v := .agg ((List.range sz).map fun j=>arr.getD j undef).toArray) ?_ (hrd.weak h.mem) ih
  simp only[zb6,hv,asAddr,Sem.run_bind,Sem.run_pure,Result.andThen_ok]
  exact zbi ht C.w _ (fun j=>arr.getD j undef) (fun j hj=>by rw[aadd,zaz h1,Nat.zero_add];exact hcell j hj)
inductive RetG (P:Program) (s:St):List ResultVar→D→Mem→Prop
 | own {t:Tmp} {r:D} {m':Mem} (h:Wk s ⟨[(t,r)],m',s.n⟩):RetG P s [.tmp t] r m'
 | dat {rs:List ResultVar} {vs:List V} {m':Mem} (h:RetOK P s rs vs) (hm:Wk s ⟨[],m',s.n⟩):RetG P s rs (.dat true (pack vs)) m'
 | old {rs:List ResultVar} {vs:List V} {m':Mem} (h:RetD P s rs vs) (hm:Wk s ⟨[],m',s.n⟩):RetG P s rs (.dat false (pack vs)) m'
def zaN (P:Program) (res:List ResultVar) (r:D) (m':Mem):Exit→St→Prop
 | .normal,s=>RetG P s res r m'
 | .ret,s=>RetG P s res r m'
 | _,_=>False
theorem gOwn {P:Program} {s:St} {t:Tmp} {r:D} {m':Mem} (h:Wk s ⟨[(t,r)],m',s.n⟩):zaN P [.tmp t] r m' .ret s := .own h
theorem gDat {P:Program} {s:St} {rs:List ResultVar} {vs:List V} {r:V} {m':Mem} (h:RetOK P s rs vs) (hm:Wk s ⟨[],m',s.n⟩) (he:pack vs=r):zaN P rs (.dat true r) m' .ret s:=by
 subst he;exact .dat h hm
theorem gOld {P:Program} {s:St} {rs:List ResultVar} {vs:List V} {r:V} {m':Mem} (h:RetD P s rs vs) (hm:Wk s ⟨[],m',s.n⟩) (he:pack vs=r):zaN P rs (.dat false r) m' .ret s:=by
 subst he;exact .old h hm
theorem zav {s:St}:Wk s ⟨[],[],s.n⟩:=zfR (fun _=>none) rfl rfl trivial trivial
theorem zgk {C:Cf} {n:Bool} {xs:List V} {vs:List Value} (hl:vs.length=xs.length) (h:∀ (j:Nat) x v,xs[j]? = some x→vs[j]? = some v→RdF C n x v) :
  RdF C n (pack xs) (zqA vs):=by
 match xs,vs,hl with
 | [],[],_=>exact Rd.tuple [] #[] rfl (by simp)
 | [x],[v],_=>exact h 0 x v rfl rfl
 | x::y::l,u::v::k,hl=>exact Rd.tuple _ _ (by simpa using hl) (fun j d c h1 h2=>h j d c h1 (by simpa using h2))
theorem zbj {P : Program} {f : FuncId} {fn : Func} {c : Code} {ds : List D} {r : D} {m m' : Mem} (hf : P.funcs[f]? = some fn) (hb : fn.body = some c) (hn : Nat.ble ds.length fn.ntmps = true) (hname : (fn.name == "runtime.NumGoroutine") = false)
  (h:DW P c (zaN P fn.results.toList r m') ⟨envD 0 ds,m,fn.ntmps⟩):FnG P f ds m r m':=by
 refine⟨⟨fn,hf,by rw[hb];rfl,hname⟩,?_⟩
 intro C vs hh hl hr
 refine calls_of_wp hf hb ?_
 have h0:Holds C ⟨envD 0 ds,m,fn.ntmps⟩ ⟨vs++Array.replicate (fn.ntmps-vs.size) undef,[]⟩:=by
  refine⟨hh,rfl,by simp;have:=Nat.le_of_ble_eq_true hn;omega,fun t=>?_⟩
  show RdD C m (Env.at (envD 0 ds) t) _
  rw[ziT,if_pos (Nat.zero_le _),Nat.sub_zero]
  cases hd:ds[t]? with
  | none=>exact trivial
  | some d =>
   have hlt:t<vs.size:=by rw[hl];exact(List.getElem?_eq_some_iff.1 hd).1
   have hv:vs[t]? = some vs[t]:=Array.getElem?_eq_getElem hlt
   have:(vs++Array.replicate (fn.ntmps-vs.size) undef).getD t undef=vs[t]:=by
    rw[Array.getD_eq_getD_getElem?,Array.getElem?_append_left hlt,hv];rfl
   rw[this]
   exact hr t d _ hd hv
 refine Code.wp_mono ?_ (h _ _ h0)
 rintro e a' w' ⟨C',s',rfl,hq,h',hx⟩
 have fin:RetG P s' fn.results.toList r m'→a'.defers=[]∧∃ v,(results fn a'.tmps).run P C'.w = .ok v C'.w ∧
   ∃ v' C1,Ending.returned v = .returned v'∧C1.w=C'.w∧Ext C m C1 m'∧HoldsM C1 m'∧RdD C1 m' r v':=by
  intro hro
  generalize hrs:fn.results.toList=rs at hro
  cases hro with
  | @own t r m' hw =>
   obtain⟨C1,e1,h1,x1⟩:=hw C' a' h'
   have hres:(results fn a'.tmps).run P C'.w = .ok (a'.tmps.getD t undef) C'.w :=
    zbR [a'.tmps.getD t undef] (by rw[hrs];rfl) (fun j x v h1 h2=>by
     rw[hrs]at h1
     cases j with
     | zero=>simp at h1 h2;subst h1;subst h2;simp[zb6]
     | succ j=>simp at h1)
   have hv:=h1.env t
   have he:Env.at [(t,r)] t=r:=zcP _ _ _ _
   rw[show(St.mk [(t,r)] m' s'.n).env=[(t,r)]from rfl,he]at hv
   exact⟨h'.defers,_,hres,_,C1,rfl,e1,hx.trans x1,h1.mem,hv⟩
  | @dat _ us m' hro hw =>
   obtain⟨C1,e1,h1,x1⟩:=hw C' a' h'
   obtain⟨vs',l1,l2,r1,r2⟩:=zmo h' hro
   refine⟨h'.defers,_,zbR vs' (by rw[hrs];exact l1) (by rw[hrs];exact r1),_,C1,rfl,e1,hx.trans x1,h1.mem,?_⟩
   exact RdF.mono (zgk (by omega) r2) h'.mem x1
  | @old _ us m' hro hw =>
   obtain⟨C1,e1,h1,x1⟩:=hw C' a' h'
   obtain⟨vs',l1,l2,r1,r2⟩:=zsC h' hro
   refine⟨h'.defers,_,zbR vs' (by rw[hrs];exact l1) (by rw[hrs];exact r1),_,C1,rfl,e1,hx.trans x1,h1.mem,?_⟩
   exact RdF.mono (zgk (by omega) r2) h'.mem x1
 cases e with
 | normal=>exact fin hq
 | ret=>exact fin hq
 | _=>exact hq.elim
abbrev Tr := List (Nat×Nat)
def toG : Tr→Nat→Option Nat
 | [],_=>none
 | (k,g)::r,x=>bif Nat.beq k x then some g else toG r x
def toK : Tr→Nat→Option Nat
 | [],_=>none
 | (k,g)::r,x=>bif Nat.beq g x then some k else toK r x
def okT : Tr→Bool
 | []=>true
 | (k,g)::r=>r.all (fun p => !Nat.beq p.1 k && !Nat.beq p.2 g) && okT r
theorem nbeq {a b:Nat}:Nat.beq a b=true↔a=b:=⟨Nat.eq_of_beq_eq_true,fun h=>by subst h;simp⟩
theorem nbeqf {a b:Nat}:Nat.beq a b=false↔a≠b:=by
 refine⟨fun h e=>by subst e;simp at h,fun h=>?_⟩
 cases hb:Nat.beq a b with
 | false=>rfl
 | true=>exact absurd (nbeq.1 hb) h
theorem zgJ {T:Tr} {k g:Nat} (h:toG T k=some g):(k,g)∈T:=by
 induction T with
 | nil=>cases h
 | cons p r ih =>
  obtain⟨k',g'⟩:=p
  simp only[toG]at h
  cases hb:Nat.beq k' k with
  | true =>
   rw[hb]at h
   simp at h
   subst h
   rw[nbeq.1 hb]
   exact List.mem_cons.2 (.inl rfl)
  | false =>
   rw[hb]at h
   exact List.mem_cons.2 (.inr (ih h))
theorem zbo {T:Tr} {k g:Nat} (h:toK T g=some k):(k,g)∈T:=by
 induction T with
 | nil=>cases h
 | cons p r ih =>
  obtain⟨k',g'⟩:=p
  simp only[toK]at h
  cases hb:Nat.beq g' g with
  | true =>
   rw[hb]at h
   simp at h
   subst h
   rw[nbeq.1 hb]
   exact List.mem_cons.2 (.inl rfl)
  | false =>
   rw[hb]at h
   exact List.mem_cons.2 (.inr (ih h))
theorem zj0 {T:Tr} (ht:okT T=true) {k g:Nat} (h:(k,g)∈T):toG T k=some g∧toK T g=some k:=by
 induction T with
 | nil=>cases h
 | cons p r ih =>
  obtain⟨k',g'⟩:=p
  simp only[okT,Bool.and_eq_true,List.all_eq_true,Bool.not_eq_true']at ht
  simp only[toG,toK]
  rcases List.mem_cons.1 h with h|h
  ·injection h with h1 h2
   subst h1 h2
   simp
  ·obtain⟨h1,h2⟩:=ih ht.2 h
   obtain⟨h3,h4⟩:=ht.1 _ h
   have e1:Nat.beq k' k=false:=nbeqf.2 (fun e=>nbeqf.1 h3 e.symm)
   have e2:Nat.beq g' g=false:=nbeqf.2 (fun e=>nbeqf.1 h4 e.symm)
   rw[e1,e2]
   exact⟨h1,h2⟩
theorem toGK {T:Tr} (ht:okT T=true) {k g:Nat}:toG T k=some g↔toK T g=some k :=
 ⟨fun h=>(zj0 ht (zgJ h)).2,fun h=>(zj0 ht (zbo h)).1⟩
def zcR : Box→Nat
 | .row v _ _ _ _=>v
 | _=>0
def zfs (m:Mem) (g:Nat):Box→Box
 | .row v frz nw sz xs=>.row (v+zcR (m.at g)+1) frz nw sz xs
 | b=>b
def zci (m m':Mem):Tr→Mem
 | []=>[]
 | (k,g)::r=>(g,zfs m g (m'.at k))::zci m m' r
def zj1 (m:Mem) (T:Tr):D→D
 | .own k v lo len=>match toG T k with
  | some g=>.own g (v+zcR (m.at g)+1) lo len
  | none=>.any
 | .dat n x=>.dat n x
 | .nil=>.nil
 | _=>.any
def zhQ (m:Mem) (T:Tr):D→D
 | .aggd cs=>.aggd (cs.map (zj1 m T))
 | d=>zj1 m T d
def zlo (m:Mem) (T:Tr):D→Option D
 | .own g v lo len=>match toK T g with
  | some k=>bif Nat.beq v (zcR (m.at g))then some (.own k 0 lo len)else none
  | none=>match asV m (.own g v lo len)with
   | some (_,x)=>some (.dat false x)
   | none=>none
 | .nil=>some .nil
 | d=>match asV m d with
  | some (_,x)=>some (.dat false x)
  | none=>none
def zft (m:Mem) (T:Tr):List D→Option (List D)
 | []=>some []
 | d::r=>match zlo m T d,zft m T r with
  | some x,some y=>some (x::y)
  | _,_=>none
def zdv (m mk:Mem):Tr→Prop
 | []=>True
 | (k,g)::r=>((mk.at k = .gone∧m.at g = .gone)∨∃ ver nw sz xs,mk.at k = .row 0 false nw sz xs∧m.at g = .row ver false nw sz xs)∧zdv m mk r
def zfS (mk':Mem):Tr→Prop
 | []=>True
 | (k,_)::r=>(∃ ver nw sz xs,mk'.at k = .row ver false nw sz xs)∧zfS mk' r
def zdO (T:Tr) (m:Mem):Bool:=(m.map (·.1)).all fun k=>(toG T k).isSome
theorem za7 {m mk:Mem}:∀ {T:Tr},zdv m mk T→∀ {k g:Nat},(k,g)∈T→(mk.at k = .gone∧m.at g = .gone)∨∃ ver nw sz xs,mk.at k = .row 0 false nw sz xs∧m.at g = .row ver false nw sz xs
 | [],_,_,_,h=>by cases h
 | (k',g')::r,h,k,g,hm=>by
  rcases List.mem_cons.1 hm with e|e
  ·injection e with e1 e2;subst e1 e2;exact h.1
  ·exact za7 h.2 e
theorem zdw {mk':Mem}:∀ {T:Tr},zfS mk' T→∀ {k g:Nat},(k,g)∈T→∃ ver nw sz xs,mk'.at k = .row ver false nw sz xs
 | [],_,_,_,h=>by cases h
 | (k',g')::r,h,k,g,hm=>by
  rcases List.mem_cons.1 hm with e|e
  ·injection e with e1 e2;subst e1;exact h.1
  ·exact zdw h.2 e
theorem zgK {T:Tr} {m:Mem} (h:zdO T m=true) {k:Nat} (hk:m.at k ≠ .gone):∃ g,toG T k=some g:=by
 have:=List.all_eq_true.1 h k (zdz hk)
 exact Option.isSome_iff_exists.1 this
theorem ziU {m mk':Mem}:∀ (T:Tr) (m0:Mem) (g:Nat),Mem.at (zci m mk' T++m0) g=match toK T g with|some k=>zfs m g (mk'.at k)|none=>m0.at g
 | [],m0,g=>rfl
 | (k',g')::r,m0,g=>by
  have ih:=ziU (m:=m) (mk':=mk') r m0 g
  simp only[zci,toK]
  show look _ ((g',_)::(zci m mk' r++m0)) g=_
  rw[zai]
  cases hb:Nat.beq g' g with
  | true =>
   have:=nbeq.1 hb
   subst this
   simp
  | false =>
   rw[if_neg (nbeqf.1 hb)]
   exact ih
theorem zfu {m mk':Mem}:∀ {T:Tr} {g:Nat},g∈(zci m mk' T).map (·.1)↔∃ k,(k,g)∈T
 | [],g=>by simp[zci]
 | (k',g')::r,g=>by
  simp only[zci,List.map_cons,List.mem_cons]
  rw[zfu]
  constructor
  ·rintro(rfl|⟨k,h⟩)
   ·exact⟨k',.inl rfl⟩
   ·exact⟨k,.inr h⟩
  ·rintro⟨k,h|h⟩
   ·injection h with h1 h2;exact .inl h2
   ·exact .inr ⟨k,h⟩
def ze3 (C:Cf) (T:Tr):Cf := { C with ι:=fun k=>(toG T k).bind C.ι }
def zgL (C C1:Cf) (T:Tr):Cf := { ι:=fun g=>match toK T g with|some k=>C1.ι k|none=>C.ι g,S:=C1.S,N:=C1.N,w:=C1.w }
section
variable {C C1 : Cf} {m mk mk' : Mem} {T : Tr}
theorem lent_holds (hh:HoldsM C m) (ht:okT T=true) (hl:zdv m mk T) (hk:zdO T mk=true):HoldsM (ze3 C T) mk:=by
 have key:∀ k,mk.at k ≠ .gone→∃ g ver nw sz xs,toG T k=some g∧mk.at k = .row 0 false nw sz xs∧m.at g = .row ver false nw sz xs:=fun k hkg=>by
  obtain⟨g,hg⟩:=zgK hk hkg
  rcases za7 hl (zgJ hg)with⟨h1,_⟩|⟨ver,nw,sz,xs,h1,h2⟩
  ·exact absurd h1 hkg
  ·exact⟨g,ver,nw,sz,xs,hg,h1,h2⟩
 refine⟨fun k=>?_,fun k k' b h1 h2 i1 i2=>?_,fun k b h1 h2=>?_,hh.sdom,hh.ns⟩
 ·by_cases hkg:mk.at k = .gone
  ·rw[hkg];trivial
  ·obtain⟨g,ver,nw,sz,xs,e1,e2,e3⟩:=key k hkg
   rw[e2]
   have hb:=hh.box g
   rw[e3]at hb
   show BoxOK _ _ ((toG T k).bind C.ι) _
   rw[e1,Option.bind_some]
   cases hi:C.ι g with
   | none=>rw[hi]at hb;exact hb
   | some b=>rw[hi]at hb;exact hb
 ·obtain⟨g,_,_,_,_,e1,_,e3⟩:=key k h1
  obtain⟨g',_,_,_,_,f1,_,f3⟩:=key k' h2
  have i1:(toG T k).bind C.ι=some b:=i1
  have i2:(toG T k').bind C.ι=some b:=i2
  rw[e1,Option.bind_some]at i1
  rw[f1,Option.bind_some]at i2
  have:=hh.inj g g' b (by rw[e3];simp) (by rw[f3];simp) i1 i2
  subst this
  have q1:=(toGK ht).1 e1
  have q2:=(toGK ht).1 f1
  rw[q1]at q2
  injection q2
 ·have hkg:mk.at k ≠ .gone:=by intro h;rw[h]at h1;cases h1
  obtain⟨g,_,_,_,_,e1,_,e3⟩:=key k hkg
  have h2:(toG T k).bind C.ι=some b:=h2
  rw[e1,Option.bind_some]at h2
  exact hh.sep g b (by rw[e3];rfl) h2
theorem zos (hh:HoldsM C m) (ht:okT T=true) (hl:zdv m mk T) (hk:zdO T mk=true) (_hk':zdO T mk'=true) (hb':zfS mk' T)
  (hx:Ext (ze3 C T) mk C1 mk') (h1:HoldsM C1 mk'):Step C m (zgL C C1 T) (zci m mk' T++m):=by
 have hat:∀ g,Mem.at (zci m mk' T++m) g=match toK T g with|some k=>zfs m g (mk'.at k)|none=>m.at g:=fun g=>ziU T m g
 have lt:∀ {g b},m.at g ≠ .gone→C.ι g=some b→b<C.w.heap.size:=fun h i=>BoxOK.lt hh h i
 have mutK:∀ k b,(mk.at k).mut=true→(ze3 C T).ι k=some b→∃ g,toG T k=some g∧C.ι g=some b∧(m.at g).mut=true:=fun k b hm hi=>by
  have hkg:mk.at k ≠ .gone:=by intro h;rw[h]at hm;cases hm
  obtain⟨g,hg⟩:=zgK hk hkg
  have hi:(toG T k).bind C.ι=some b:=hi
  rw[hg,Option.bind_some]at hi
  rcases za7 hl (zgJ hg)with⟨q,_⟩|⟨ver,nw,sz,xs,_,q⟩
  ·exact absurd q hkg
  ·exact⟨g,hg,hi,by rw[q];rfl⟩
 have keepS:∀ b,C.S b→C1.w.heap[b]? = C.w.heap[b]? := fun b hb=>hx.keep b (hh.sdom b hb) (fun k hm hi=>by
  obtain⟨g,_,i,mu⟩:=mutK k b hm hi
  exact hh.sep g b mu i hb)
 have keepG:∀ g b,toK T g=none→m.at g ≠ .gone→C.ι g=some b→C1.w.heap[b]? = C.w.heap[b]? := fun g b hg hgo hi=>hx.keep b (lt hgo hi) (fun k hm hik=>by
  obtain⟨g',e1,i,mu⟩:=mutK k b hm hik
  have:m.at g' ≠ .gone:=by intro h;rw[h]at mu;cases mu
  have:=hh.inj g g' b hgo this hi i
  subst this
  rw[(toGK ht).1 e1]at hg
  cases hg)
 have hd:∀ n x v,RdF C n x v→RdF (zgL C C1 T) n x v:=fun n x v h=>by
  cases n
  ·exact Rd.mono h hx.sS keepS
  ·exact Rd.mono h hx.sN (fun b hb=>keepS b (hh.ns b hb))
 have hs:∀ d v,RdS C m d v→RdS (zgL C C1 T) (zci m mk' T++m) d v:=by
  intro d v h
  cases d with
  | any=>trivial
  | nil=>exact h
  | grd b d=>exact h.elim
  | aggd cs=>exact h.elim
  | fnd _ _=>exact h.elim
  | dat n x=>exact hd n x v h
  | own g ver lo len =>
   obtain⟨ver',frz,nw,sz,xs,e1,e2,e3,e4⟩:=h
   cases hg:toK T g with
   | none =>
    refine⟨ver',frz,nw,sz,xs,by rw[hat,hg];exact e1,e2,e3,fun hv=>?_⟩
    obtain⟨q1,q2⟩:=e4 hv
    refine⟨q1,?_⟩
    show OwnV C1.w sz (match toK T g with|some k=>C1.ι k|none=>C.ι g) lo len v
    rw[hg]
    unfold OwnV at *
    cases hi:C.ι g with
    | none=>simp only[hi]at q2 ⊢;exact q2
    | some b =>
     simp only[hi]at q2 ⊢
     obtain⟨cap,arr,T',fz,p1,p2,p3⟩:=q2
     exact⟨cap,arr,T',fz,p1,(keepG g b hg (by rw[e1];simp) hi).trans p2,p3⟩
   | some k =>
    obtain⟨v1,nw1,sz1,xs1,f1⟩:=zdw hb' (zbo hg)
    refine⟨v1+ver'+1,false,nw1,sz1,xs1,by rw[hat,hg];simp only[f1,zfs,e1,zcR],by omega,e3,fun hv=>by omega⟩
  | ptr g off =>
   obtain⟨frz,nw,cs,b,e1,e2,e3⟩:=h
   cases hg:toK T g with
   | none=>exact⟨frz,nw,cs,b,by rw[hat,hg];exact e1,by show(match toK T g with|some k=>C1.ι k|none=>C.ι g)=_;rw[hg];exact e2,e3⟩
   | some k =>
    rcases za7 hl (zbo hg)with⟨_,q⟩|⟨_,_,_,_,_,q⟩<;>rw[e1]at q<;>cases q
  | rptr g ver i off =>
   obtain⟨ver',frz,nw,sz,xs,e1,e2,e3,e4⟩:=h
   cases hg:toK T g with
   | none =>
    refine⟨ver',frz,nw,sz,xs,by rw[hat,hg];exact e1,e2,e3,fun hv=>?_⟩
    obtain⟨q1,b,q2,q3⟩:=e4 hv
    exact⟨q1,b,by show(match toK T g with|some k=>C1.ι k|none=>C.ι g)=_;rw[hg];exact q2,q3⟩
   | some k =>
    obtain⟨v1,nw1,sz1,xs1,f1⟩:=zdw hb' (zbo hg)
    refine⟨v1+ver'+1,false,nw1,sz1,xs1,by rw[hat,hg];simp only[f1,zfs,e1,zcR],by omega,e3,fun hv=>by omega⟩
  | mp g =>
   obtain⟨kt,et,es,b,e1,e2,e3⟩:=h
   cases hg:toK T g with
   | none=>exact⟨kt,et,es,b,by rw[hat,hg];exact e1,by show(match toK T g with|some k=>C1.ι k|none=>C.ι g)=_;rw[hg];exact e2,e3⟩
   | some k =>
    rcases za7 hl (zbo hg)with⟨_,q⟩|⟨_,_,_,_,_,q⟩<;>rw[e1]at q<;>cases q
  | sl g n =>
   obtain⟨frz,nw,cs,b,cap,e1,e2,e3⟩:=h
   cases hg:toK T g with
   | none=>exact⟨frz,nw,cs,b,cap,by rw[hat,hg];exact e1,by show(match toK T g with|some k=>C1.ι k|none=>C.ι g)=_;rw[hg];exact e2,e3⟩
   | some k =>
    rcases za7 hl (zbo hg)with⟨_,q⟩|⟨_,_,_,_,_,q⟩<;>rw[e1]at q<;>cases q
 have ownB:∀ k b,(mk'.at k).mut=true→C1.ι k=some b→C.w.heap.size≤b∨∃ g,(m.at g).mut=true∧C.ι g=some b∧toK T g≠none:=fun k b hm hi=>by
  rcases hx.own k b hm hi with q|⟨k0,q1,q2⟩
  ·exact .inl q
  ·obtain⟨g,e1,e2,e3⟩:=mutK k0 b q1 q2
   exact .inr ⟨g,e3,e2,by rw[(toGK ht).1 e1];simp⟩
 have mutR:∀ g k,toK T g=some k→(mk'.at k).mut=true:=fun g k hg=>by
  obtain⟨v1,nw1,sz1,xs1,f1⟩:=zdw hb' (zbo hg)
  rw[f1];rfl
 have cross:∀ g g' k b,toK T g=some k→toK T g'=none→m.at g' ≠ .gone→C1.ι k=some b→C.ι g'=some b→False:=fun g g' k b hg hg' hgo i1 i2=>by
  rcases ownB k b (mutR g k hg) i1 with q|⟨g0,q1,q2,q3⟩
  ·have:=lt hgo i2;omega
  ·have hne:m.at g0 ≠ .gone:=by intro h;rw[h]at q1;cases q1
   have:=hh.inj g0 g' b hne hgo q2 i2
   subst this
   exact q3 hg'
 refine⟨⟨hx.os,hx.tape,hx.output,hx.size,fun b hb hn=>hx.keep b hb (fun k hm hi=>?_),fun g b h2 h3=>?_,hx.sS,hx.sN,hx.supS,fun b hb=>?_⟩,⟨fun g=>?_,fun g g' b h2 h3 i1 i2=>?_,fun g b h2 h3 h4=>?_,h1.sdom,h1.ns⟩,RdD.of_S hs⟩
 ·obtain⟨g,_,e2,e3⟩:=mutK k b hm hi
  exact hn g e3 e2
 ·rw[hat]at h2
  have h3:(match toK T g with|some k=>C1.ι k|none=>C.ι g)=some b:=h3
  cases hg:toK T g with
  | none=>rw[hg]at h2 h3;exact .inr ⟨g,h2,h3⟩
  | some k =>
   rw[hg]at h3
   rcases ownB k b (mutR g k hg) h3 with q|⟨g0,q1,q2,_⟩
   ·exact .inl q
   ·exact .inr ⟨g0,q1,q2⟩
 ·rcases hx.supN b hb with q|q|⟨k,q1,q2⟩
  ·exact .inl q
  ·exact .inr (.inl q)
  ·obtain⟨g,_,e2,e3⟩:=mutK k b q1 q2
   exact .inr (.inr ⟨g,e3,e2⟩)
 ·rw[hat]
  show BoxOK _ _ (match toK T g with|some k=>C1.ι k|none=>C.ι g) _
  cases hg:toK T g with
  | none =>
   by_cases hgo:m.at g = .gone
   ·simp only[hgo];trivial
   ·exact BoxOK.upd (hh.box g) (fun b hb=>keepG g b hg hgo hb) hd hs hx.sS hx.sN
  | some k =>
   obtain⟨v1,nw1,sz1,xs1,f1⟩:=zdw hb' (zbo hg)
   have hb:=h1.box k
   rw[f1]at hb
   simp only[f1,zfs]
   cases hi:C1.ι k with
   | none=>rw[hi]at hb;exact hb
   | some b=>rw[hi]at hb;exact hb
 ·rw [hat]at h2 h3
  have i1:(match toK T g with|some k=>C1.ι k|none=>C.ι g)=some b:=i1
  have i2:(match toK T g' with|some k=>C1.ι k|none=>C.ι g')=some b:=i2
  cases hg:toK T g with
  | none =>
   cases hg':toK T g' with
   | none =>
    rw[hg]at h2 i1
    rw[hg']at h3 i2
    exact hh.inj g g' b h2 h3 i1 i2
   | some k' =>
    rw[hg]at h2 i1
    rw[hg']at i2
    exact(cross g' g k' b hg' hg h2 i2 i1).elim
  | some k =>
   cases hg':toK T g' with
   | none =>
    rw[hg]at i1
    rw[hg']at h3 i2
    exact(cross g g' k b hg hg' h3 i1 i2).elim
   | some k' =>
    rw[hg]at i1
    rw[hg']at i2
    have hm:mk'.at k ≠ .gone:=by intro h;have:=mutR g k hg;rw[h]at this;cases this
    have hm':mk'.at k' ≠ .gone:=by intro h;have:=mutR g' k' hg';rw[h]at this;cases this
    have:=h1.inj k k' b hm hm' i1 i2
    subst this
    have q1:=(toGK ht).2 hg
    have q2:=(toGK ht).2 hg'
    rw[q1]at q2
    injection q2
 ·have h3:(match toK T g with|some k=>C1.ι k|none=>C.ι g)=some b:=h3
  have h4:C1.S b:=h4
  rw[hat]at h2
  cases hg:toK T g with
  | some k =>
   rw[hg]at h3
   exact h1.sep k b (mutR g k hg) h3 h4
  | none =>
   rw[hg]at h2 h3
   have hgo:m.at g ≠ .gone:=by intro h;rw[h]at h2;cases h2
   rcases hx.supS b h4 with q|q
   ·exact hh.sep g b h2 h3 q
   ·rcases hx.supN b q with q|q|⟨k0,q1,q2⟩
    ·exact hh.sep g b h2 h3 (hh.ns b q)
    ·have q:C.w.heap.size≤b:=q
     have:=lt hgo h3;omega
    ·obtain⟨g0,e1,e2,e3⟩:=mutK k0 b q1 q2
     have hne:m.at g0 ≠ .gone:=by intro h;rw[h]at e3;cases e3
     have:=hh.inj g0 g b hne hgo e2 h3
     subst this
     rw[(toGK ht).1 e1]at hg
     cases hg
theorem zms (ht:okT T=true) (_hb':zfS mk' T) {d:D} {v:Value} (h:RdS C1 mk' d v):RdS (zgL C C1 T) (zci m mk' T++m) (zj1 m T d) v:=by
 cases d with
 | own k v0 lo len =>
  simp only[zj1]
  cases hg:toG T k with
  | none=>exact trivial
  | some g =>
   have hk:=(toGK ht).1 hg
   obtain⟨ver',frz,nw,sz,xs,e1,e2,e3,e4⟩:=h
   refine⟨ver'+zcR (m.at g)+1,frz,nw,sz,xs,?_,by omega,e3,fun hv=>?_⟩
   ·rw[ziU,hk]
    simp only[e1,zfs]
   ·obtain⟨q1,q2⟩:=e4 (by omega)
    refine⟨q1,?_⟩
    show OwnV C1.w sz (match toK T g with|some k=>C1.ι k|none=>C.ι g) lo len v
    rw[hk]
    exact q2
 | dat n x=>exact h
 | nil=>exact h
 | _=>exact trivial
theorem zqE (ht:okT T=true) (hb':zfS mk' T) {d:D} {v:Value} (h:RdD C1 mk' d v):RdD (zgL C C1 T) (zci m mk' T++m) (zhQ m T d) v:=by
 cases d with
 | aggd cs =>
  obtain⟨vs,hv,hl,hr⟩:=h
  refine⟨vs,hv,by simp[hl],fun j d c hd hc=>?_⟩
  simp only[List.getElem?_map,Option.map_eq_some_iff]at hd
  obtain⟨d0,hd0,rfl⟩:=hd
  exact zms ht hb' (hr j d0 c hd0 hc)
 | own k v0 lo len=>exact(zms ht hb' (d := .own k v0 lo len) h).rd
 | dat n x=>exact h
 | nil=>exact h
 | _=>exact trivial
theorem zqF {m0:Mem} (hh:HoldsM C m) (ht:okT T=true) (hl:zdv m mk T) {d d':D} {v:Value} (hag:∀ g,g∈refs m0 d∨g∈T.map (·.2)→m.at g=m0.at g) (h:zlo m0 T d=some d') (hr:RdD C m d v):RdD (ze3 C T) mk d' v:=by
 have dat:∀ {n:Bool} {x:V},asV m0 d=some (n,x)→RdD (ze3 C T) mk (.dat false x) v:=fun {n x} hx=>by
  have:RdF C n x v:=zcF hh (fun g hg=>hag g (.inl hg)) hx hr
  exact this.weak hh
 have case2:∀ {z:Option (Bool×V)},asV m0 d=z→(match z with|some (_,x)=>some (D.dat false x)|none=>none)=some d'→RdD (ze3 C T) mk d' v:=fun {z} hz h=>by
  cases z with
  | none=>cases h
  | some p =>
   obtain⟨n,x⟩:=p
   injection h with h
   subst h
   exact dat hz
 cases d with
 | own g ver lo len =>
  simp only[zlo]at h
  cases hg:toK T g with
  | none =>
   rw[hg]at h
   exact case2 rfl h
  | some k =>
   rw[hg]at h
   simp only at h
   have hmg:m.at g=m0.at g:=hag g (.inr (List.mem_map.2 ⟨(k,g),zbo hg,rfl⟩))
   cases hb:Nat.beq ver (zcR (m0.at g))with
   | false=>rw[hb]at h;cases h
   | true =>
    rw[hb]at h
    injection h with h
    subst h
    obtain⟨ver',frz,nw,sz,xs,e1,e2,e3,e4⟩:=hr
    have hv:ver=ver':=by
     have:=nbeq.1 hb
     rw[←hmg,e1]at this
     exact this
    rcases za7 hl (zbo hg)with⟨_,q⟩|⟨ver2,nw2,sz2,xs2,q1,q2⟩
    ·rw[e1]at q;cases q
    ·rw[e1]at q2
     injection q2 with p1 p2 p3 p4 p5
     subst p1 p2 p3 p4 p5
     refine⟨0,false,nw,sz,xs,q1,Nat.le_refl _,e3,fun _=>?_⟩
     obtain⟨r1,r2⟩:=e4 hv
     refine⟨r1,?_⟩
     show OwnV C.w sz ((toG T k).bind C.ι) lo len v
     rw[(toGK ht).2 hg]
     exact r2
 | grd b d=>simp[zlo,asV,asV0]at h
 | any=>simp[zlo,asV,asV0]at h
 | nil =>
  simp only[zlo,Option.some.injEq]at h
  subst h
  exact hr
 | dat n x=>exact case2 rfl h
 | ptr g off=>exact case2 rfl h
 | rptr g ver i off=>exact case2 rfl h
 | mp g=>exact case2 rfl h
 | sl g n=>exact case2 rfl h
 | aggd cs=>exact case2 rfl h
 | fnd f cs=>exact case2 rfl h
theorem ziV {m0:Mem} (hh:HoldsM C m) (ht:okT T=true) (hl:zdv m mk T):∀ (ds ds':List D),(∀ g,g∈ds.flatMap (refs m0)∨g∈T.map (·.2)→m.at g=m0.at g)→zft m0 T ds=some ds' →
  ds'.length=ds.length∧∀ (j:Nat) d d' v,ds[j]? = some d→ds'[j]? = some d'→RdD C m d v→RdD (ze3 C T) mk d' v
 | [],ds',_,h=>by
  simp only[zft,Option.some.injEq]at h
  subst h
  simp
 | d :: r,ds',hag,h=>by
  simp only[zft]at h
  cases h0:zlo m0 T d with
  | none=>simp[h0]at h
  | some x0 =>
   cases h1:zft m0 T r with
   | none=>simp[h0,h1]at h
   | some x1 =>
    simp only[h0,h1,Option.some.injEq]at h
    subst h
    obtain⟨hl',ih⟩:=ziV hh ht hl r x1 (fun g hg=>hag g (hg.elim (fun hg=>.inl (by simp[hg])) .inr)) h1
    refine⟨by simp[hl'],fun j d1 d1' v hd hx hr=>?_⟩
    cases j with
    | zero =>
     simp only[List.getElem?_cons_zero,Option.some.injEq]at hd hx
     subst hd;subst hx
     exact zqF hh ht hl (fun g hg=>hag g (hg.elim (fun hg=>.inl (by simp[hg])) .inr)) h0 hr
    | succ j =>
     simp only[List.getElem?_cons_succ]at hd hx
     exact ih j d1 d1' v hd hx hr
end
theorem zj2 {m m0 mk:Mem}:∀ {T:Tr},(∀ g,g∈T.map (·.2)→m.at g=m0.at g)→zdv m0 mk T→zdv m mk T
 | [],_,_=>trivial
 | (k,g)::r,h,hl=>by
  have e:=h g (by simp)
  refine⟨?_,zj2 (fun g' hg'=>h g' (by simp at hg' ⊢;exact .inr hg')) hl.2⟩
  rw[e]
  exact hl.1
theorem zqG {m m0:Mem} {g:Nat} (h:m.at g=m0.at g) (b:Box):zfs m g b=zfs m0 g b:=by
 cases b<;>simp only[zfs,h]
theorem zmt {m m0 mk':Mem}:∀ {T:Tr},(∀ g,g∈T.map (·.2)→m.at g=m0.at g)→zci m mk' T=zci m0 mk' T
 | [],_=>rfl
 | (k,g)::r,h=>by
  have ih:zci m mk' r=zci m0 mk' r:=zmt (fun g' hg'=>h g' (by simp at hg' ⊢;exact .inr hg'))
  simp only[zci]
  rw[zqG (h g (by simp)),ih]
theorem zmu {m m0:Mem} {T:Tr} (h:∀ g,g∈T.map (·.2)→m.at g=m0.at g) (d:D):zj1 m T d=zj1 m0 T d:=by
 cases d with
 | own k v lo len =>
  simp only[zj1]
  cases hg:toG T k with
  | none=>rfl
  | some g=>simp only[h g (List.mem_map.2 ⟨(k,g),zgJ hg,rfl⟩)]
 | _=>rfl
theorem zqH {m m0:Mem} {T:Tr} (h:∀ g,g∈T.map (·.2)→m.at g=m0.at g) (d:D):zhQ m T d=zhQ m0 T d:=by
 cases d with
 | aggd cs =>
  simp only[zhQ]
  congr 1
  exact List.map_congr_left (fun d _=>zmu h d)
 | own k v lo len=>exact zmu h (.own k v lo len)
 | _=>rfl
section
variable {P : Program} {e : Operand → D} {m : Mem} {dst : Option Tmp} {ty : TypeId} {pos : String} {af : Array Edge} {gd : Option (Nat × Bool)} {x : Operand}
theorem zh1 {f:FuncId} {o:Oper} {ds es capD:List D} {r:D} {mk mk':Mem} {cap:Array Value} {T:Tr} (hc:FnG P f ds mk r mk') (C:Cf) (m':Mem) (a:Act) (next:Act→World→Prop) (Q:Exit→Act→World→Prop) (hm:HoldsM C m')
  (ht:okT T=true) (hl:zdv m mk T) (hk:zdO T mk=true) (hk':zdO T mk'=true) (hb':zfS mk' T) (hag:∀ g,g∈es.flatMap (refs m)∨g∈T.map (·.2)→m'.at g=m.at g)
  (vs:Array Value) (hvl:vs.size=es.length) (hv:∀ (j:Nat) d v,es[j]? = some d→vs[j]? = some v→RdD C m' d v) (ls:List D) (ha:zft m T es=some ls) (hds:ds=ls++capD)
  (hcl:cap.size=capD.length) (hcap:∀ (j:Nat) d v,capD[j]? = some d→cap[j]? = some v→RdD (ze3 C T) mk d v) (hrun:(execOp a.eval o).run P C.w = .ok (.enter f (vs++cap)) C.w)
  (hn:∀ v C',Step C m' C' (zci m mk' T++m')→RdD C' (zci m mk' T++m') (zhQ m T r) v→next (a.put o.dst v) C'.w):o.wp P a C.w next Q:=by
 obtain⟨_,hc⟩:=hc
 unfold Oper.wp
 rw[hrun]
 show Calls P f (vs++cap) C.w _
 have hagT:∀ g,g∈T.map (·.2)→m'.at g=m.at g:=fun g hg=>hag g (.inr hg)
 have hl':=zj2 hagT hl
 obtain⟨hlen,hall⟩:=ziV hm ht hl' es ls hag ha
 refine(hc (ze3 C T) (vs++cap) (lent_holds hm ht hl' hk) (by subst hds;simp[hlen,hvl,hcl]) ?_).mono ?_
 ·intro j d v hd hcv
  subst hds
  by_cases hj:j<ls.length
  ·rw[List.getElem?_append_left hj]at hd
   rw[Array.getElem?_append_left (by omega)]at hcv
   have hes:es[j]? = some (es[j]'(by omega)):=List.getElem?_eq_getElem (by omega)
   exact hall j _ d v hes hd (hv j _ v hes hcv)
  ·rw[List.getElem?_append_right (by omega)]at hd
   rw[Array.getElem?_append_right (by omega)]at hcv
   exact hcap (j-ls.length) d v hd (by rw[show j-ls.length=j-vs.size by omega];exact hcv)
 ·rintro e' w' ⟨v,C1,rfl,rfl,hx,h1,hr⟩
  have hst:=zos hm ht hl' hk hk' hb' hx h1
  have hrd:RdD (zgL C C1 T) (zci m' mk' T++m') (zhQ m' T r) v:=zqE ht hb' hr
  rw[zmt hagT]at hst hrd
  rw[zqH hagT]at hrd
  exact hn v (zgL C C1 T) hst hrd
theorem zlp {f:FuncId} {args:Array Operand} {ats:Array TypeId} {ds:List D} {r:D} {mk mk':Mem} (T:Tr) (hc:FnG P f ds mk r mk') (ha:zft m T (args.toList.map e)=some ds) (ht:okT T=true) (hk:zdO T mk=true) (hk':zdO T mk'=true)
  (hl:zdv m mk T) (hb':zfS mk' T) :
  SStep P ⟨dst,.call { callee := .value (.func f),args:=args,argTypes:=ats },ty,pos,af,gd⟩ e m ((args.toList.map e).flatMap (refs m)) (zhQ m T r) (zci m mk' T):=by
 intro C m' a next Q hag hm hx hn
 refine zh1 (o:=⟨dst,.call { callee := .value (.func f),args:=args,argTypes:=ats },ty,pos,af,gd⟩) (capD := []) (cap := #[]) hc C m' a next Q hm ht hl hk hk' hb' ?_ (args.map a.eval) (by simp) (fun j d v hd hv=>?_) ds ha (by simp) rfl (by simp) ?_ hn
 ·intro g hg
  rcases hg with hg|hg
  ·exact hag g (.inl hg)
  ·obtain⟨⟨k,g'⟩,h1,rfl⟩:=List.mem_map.1 hg
   exact hag g' (.inr (zfu.2 ⟨k,h1⟩))
 ·simp only[List.getElem?_map,Option.map_eq_some_iff]at hd
  obtain⟨y,hy,rfl⟩:=hd
  simp only[Array.getElem?_map,Option.map_eq_some_iff]at hv
  obtain⟨y',hy',rfl⟩:=hv
  have:y=y':=by
   rw[Array.getElem?_toList]at hy
   rw[hy]at hy'
   injection hy'
  subst this
  exact hx y (by simp only[Op.operands,Call.operands];exact Array.mem_append.2 (.inr (Array.mem_of_getElem? hy')))
 ·have hev:a.eval (.func f) = .func (.func f) #[] #[]:=rfl
  simp only[execOp,resolve,hev,Deferred.ofValue,Sem.run_bind,Sem.run_pure,Result.andThen_ok,invoke,za6 hc.1]
  simp
theorem zqI {f:FuncId} {n:Bool} {cap:List V} {args:Array Operand} {ats:Array TypeId} {ds:List D} {r:D} {mk mk':Mem} (T:Tr) (hf:e x = .dat n (.fn f cap)) (hc:FnG P f (ds++cap.map (.dat false)) mk r mk') (ha:zft m T (args.toList.map e)=some ds) (ht:okT T=true) (hk:zdO T mk=true) (hk':zdO T mk'=true)
  (hl:zdv m mk T) (hb':zfS mk' T) :
  SStep P ⟨dst,.call { callee := .value x,args:=args,argTypes:=ats },ty,pos,af,gd⟩ e m ((args.toList.map e).flatMap (refs m)) (zhQ m T r) (zci m mk' T):=by
 intro C m' a next Q hag hm hx hn
 have hxf:=hx x (by simp[Op.operands,Call.operands])
 rw[hf]at hxf
 generalize hv:a.eval x=v at hxf
 cases hxf with
 | fn _ _ us hl0 hr =>
  refine zh1 (o:=⟨dst,.call { callee := .value x,args:=args,argTypes:=ats },ty,pos,af,gd⟩) (capD:=cap.map (.dat false)) (cap:=us) hc C m' a next Q hm ht hl hk hk' hb' ?_ (args.map a.eval) (by simp) (fun j d v hd hv=>?_) ds ha rfl (by simp[hl0]) (fun j d c h1 h2=>?_) ?_ hn
  ·intro g hg
   rcases hg with hg|hg
   ·exact hag g (.inl hg)
   ·obtain⟨⟨k,g'⟩,h1,rfl⟩:=List.mem_map.1 hg
    exact hag g' (.inr (zfu.2 ⟨k,h1⟩))
  ·simp only[List.getElem?_map,Option.map_eq_some_iff]at hd
   obtain⟨y,hy,rfl⟩:=hd
   simp only[Array.getElem?_map,Option.map_eq_some_iff]at hv
   obtain⟨y',hy',rfl⟩:=hv
   have:y=y':=by
    rw[Array.getElem?_toList]at hy
    rw[hy]at hy'
    injection hy'
   subst this
   exact hx y (by simp only[Op.operands,Call.operands];exact Array.mem_append.2 (.inr (Array.mem_of_getElem? hy')))
  ·simp only[List.getElem?_map,Option.map_eq_some_iff]at h1
   obtain⟨d0,h1,rfl⟩:=h1
   have q:RdF C n d0 c:=hr j d0 c h1 h2
   exact(q.weak hm:RdF C false d0 c)
  ·simp only[execOp,resolve,hv,Deferred.ofValue,Sem.run_bind,Sem.run_pure,Result.andThen_ok,invoke,za6 hc.1]
   simp
inductive Back1 (g ver:Nat):D→D→Prop
 | own (lo len:Nat):Back1 g ver (.own 1000 0 lo len) (.own g ver lo len)
 | dat (n:Bool) (x:V):Back1 g ver (.dat n x) (.dat n x)
 | nil:Back1 g ver .nil .nil
theorem ziW {m:Mem} {g:Nat} {r val:D} (h:Back1 g (zcR (m.at g)+1) r val):zhQ m [(1000,g)] r=val:=by
 cases h with
 | own lo len=>simp[zhQ,zj1,toG]
 | dat n x=>rfl
 | nil=>rfl
theorem zqJ {f:FuncId} {args:Array Operand} {ats:Array TypeId} {ds:List D} {r val:D} {ver sz sz':Nat} {nw nw':Bool} {xs xs':List (List V)} (g:Nat) (hc:FnG P f ds [(1000,.row 0 false nw sz xs)] r [(1000,.row 0 false nw' sz' xs')])
  (ha:zft m [(1000,g)] (args.toList.map e)=some ds) (hmg:m.at g = .row ver false nw sz xs) (hv:Back1 g (ver+1) r val) :
  SStep P ⟨dst,.call { callee := .value (.func f),args:=args,argTypes:=ats },ty,pos,af,gd⟩ e m ((args.toList.map e).flatMap (refs m)) val [(g,.row (ver+1) false nw' sz' xs')]:=by
 have h:=zlp (P:=P) (e:=e) (m:=m) (dst:=dst) (ty:=ty) (pos:=pos) (af:=af) (gd:=gd) (ats:=ats) [(1000,g)] hc ha rfl rfl rfl ⟨.inr ⟨ver,nw,sz,xs,rfl,hmg⟩,trivial⟩ ⟨⟨0,nw',sz',xs',rfl⟩,trivial⟩
 have e1:zci m [(1000,.row 0 false nw' sz' xs')] [(1000,g)]=[(g,.row (ver+1) false nw' sz' xs')]:=by
  have:Mem.at [(1000,Box.row 0 false nw' sz' xs')] 1000 = .row 0 false nw' sz' xs':=rfl
  simp[zci,zfs,hmg,zcR,this]
 rw[e1,ziW (by rw[hmg];exact hv)]at h
 exact h
theorem zaB {f:FuncId} {args:Array Operand} {ats:Array TypeId} {ds:List D} {r val:D} {sz':Nat} {nw':Bool} {xs':List (List V)} (g:Nat) (hc:FnG P f ds [] r [(1000,.row 0 false nw' sz' xs')])
  (ha:zft m [(1000,g)] (args.toList.map e)=some ds) (hmg:m.at g = .gone) (hv:Back1 g 1 r val) :
  SStep P ⟨dst,.call { callee := .value (.func f),args:=args,argTypes:=ats },ty,pos,af,gd⟩ e m ((args.toList.map e).flatMap (refs m)) val [(g,.row 1 false nw' sz' xs')]:=by
 have h:=zlp (P:=P) (e:=e) (m:=m) (dst:=dst) (ty:=ty) (pos:=pos) (af:=af) (gd:=gd) (ats:=ats) [(1000,g)] hc ha rfl rfl rfl ⟨.inl ⟨rfl,hmg⟩,trivial⟩ ⟨⟨0,nw',sz',xs',rfl⟩,trivial⟩
 have e1:zci m [(1000,.row 0 false nw' sz' xs')] [(1000,g)]=[(g,.row 1 false nw' sz' xs')]:=by
  have:Mem.at [(1000,Box.row 0 false nw' sz' xs')] 1000 = .row 0 false nw' sz' xs':=rfl
  simp[zci,zfs,hmg,zcR,this]
 rw[e1,ziW (by rw[hmg];exact hv)]at h
 exact h
theorem zcx {f:FuncId} {n:Bool} {cap:List V} {args:Array Operand} {ats:Array TypeId} {ds:List D} {r val:D} {sz':Nat} {nw':Bool} {xs':List (List V)} (g:Nat) (hf:e x = .dat n (.fn f cap)) (hc:FnG P f (ds++cap.map (.dat false)) [] r [(1000,.row 0 false nw' sz' xs')])
  (ha:zft m [(1000,g)] (args.toList.map e)=some ds) (hmg:m.at g = .gone) (hv:Back1 g 1 r val) :
  SStep P ⟨dst,.call { callee := .value x,args:=args,argTypes:=ats },ty,pos,af,gd⟩ e m ((args.toList.map e).flatMap (refs m)) val [(g,.row 1 false nw' sz' xs')]:=by
 have h:=zqI (P:=P) (e:=e) (m:=m) (dst:=dst) (ty:=ty) (pos:=pos) (af:=af) (gd:=gd) (ats:=ats) [(1000,g)] hf hc ha rfl rfl rfl ⟨.inl ⟨rfl,hmg⟩,trivial⟩ ⟨⟨0,nw',sz',xs',rfl⟩,trivial⟩
 have e1:zci m [(1000,.row 0 false nw' sz' xs')] [(1000,g)]=[(g,.row 1 false nw' sz' xs')]:=by
  have:Mem.at [(1000,Box.row 0 false nw' sz' xs')] 1000 = .row 0 false nw' sz' xs':=rfl
  simp[zci,zfs,hmg,zcR,this]
 rw[e1,ziW (by rw[hmg];exact hv)]at h
 exact h
theorem ze4 {f:FuncId} {args:Array Operand} {ats:Array TypeId} {ds:List D} {n:Bool} {r:V} (hc:FnG P f ds [] (.dat n r) []) (ha:zft m [] (args.toList.map e)=some ds) :
  SStep P ⟨dst,.call { callee := .value (.func f),args:=args,argTypes:=ats },ty,pos,af,gd⟩ e m ((args.toList.map e).flatMap (refs m)) (.dat n r) [] :=
 zlp (P:=P) (e:=e) (m:=m) (dst:=dst) (ty:=ty) (pos:=pos) (af:=af) (gd:=gd) (ats:=ats) [] hc ha rfl rfl rfl trivial trivial
end
end Go.Proofs.YtcdhlofhhcgohaaGreat
