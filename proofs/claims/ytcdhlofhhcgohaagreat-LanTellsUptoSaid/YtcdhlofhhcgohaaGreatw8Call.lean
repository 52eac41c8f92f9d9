/- The D-machine, part 8: calls by contract. -/
import Derived.Tactics
import Derived.Test.YtcdhlofhhcgohaaGreatw6Make
namespace Go.Proofs.YtcdhlofhhcgohaaGreat
open Go.RowKit
structure St where
 env:Env
 mem:Mem
 n:Nat
def zr6 : Value→D
 | .bool b=>.dat true (.bool b)
 | .int k n=>.dat true (.int k n)
 | .string s=>.dat true (.str s.data.toList)
 | .slice none 0 0=>.nil
 | _=>.any
def ev (s:St):Operand→D
 | .tmp t=>s.env.at t
 | .const v=>zr6 v
 | .func f=>.dat true (.fn f [])
 | .global _=>.any
def St.put (s:St) (dst:Option Tmp) (d:D) (wr:Mem):St :=
 { env:=match dst with|some t=>(t,d)::s.env|none=>s.env,mem:=wr++s.mem,n:=s.n }
structure Holds (C:Cf) (s:St) (a:Act):Prop where
 mem:HoldsM C s.mem
 defers:a.defers=[]
 size:a.tmps.size=s.n
 env:∀ t,RdD C s.mem (s.env.at t) (a.tmps.getD t undef)
theorem zoh {C:Cf} {m:Mem} (v:Value):RdD C m (zr6 v) v:=by
 cases v with
 | bool b=>exact Rd.bool b
 | int k n=>exact Rd.int k n
 | string s =>
  have h:s=⟨s.data.toList.toArray⟩:=by cases s;simp
  show Rd _ _ (.str s.data.toList) (.string s)
  conv=>rhs;rw[h]
  exact Rd.str _
 | slice a l c =>
  cases a with
  | some a=>exact trivial
  | none =>
   cases l with
   | succ l=>exact trivial
   | zero=>cases c with
    | succ c=>exact trivial
    | zero=>exact(rfl:Value.slice none 0 0 = .slice none 0 0)
 | _=>exact trivial
theorem zjP {C:Cf} {s:St} {a:Act} (h:Holds C s a) (x:Operand):RdD C s.mem (ev s x) (a.eval x):=by
 cases x with
 | tmp t=>exact h.env t
 | const v=>exact zoh v
 | func f=>exact Rd.fn f [] #[] rfl (fun j d c h1 _=>by simp at h1)
 | global g=>exact trivial
def ung : D→D
 | .grd _ d=>ung d
 | d=>d
def need : D→Prop
 | .grd b d=>b=true∧need d
 | _=>True
def needs (s:St):List Operand→Prop
 | []=>True
 | x::r=>match ev s x with
  | .grd b d=>b=true∧(match d with | .grd b' d'=>b'=true∧need d'∧needs s r|_=>needs s r)
  | _=>needs s r
theorem zr7 {C:Cf} {m:Mem}:∀ {d:D} {v:Value},RdD C m d v→need d→RdD C m (ung d) v
 | .grd _ d,_,h,hn=>zr7 (d:=d) (h.1 hn.1) hn.2
 | .any,_,h,_ | .nil,_,h,_ | .dat _ _,_,h,_ | .own _ _ _ _,_,h,_ | .ptr _ _,_,h,_ | .rptr _ _ _ _,_,h,_ | .mp _,_,h,_ | .sl _ _,_,h,_ | .aggd _,_,h,_ | .fnd _ _,_,h,_=>h
theorem zoi {s:St}:∀ {l:List Operand},needs s l→∀ x,x∈l→need (ev s x)
 | [],_,x,hx=>by cases hx
 | y::r,h,x,hx=>by
  simp only[needs]at h
  have key:need (ev s y)∧needs s r:=by
   cases he:ev s y with
   | grd b d =>
    rw[he]at h
    simp only at h
    cases d with
    | grd b' d'=>exact⟨⟨h.1,h.2.1,h.2.2.1⟩,h.2.2.2⟩
    | _=>exact⟨⟨h.1,trivial⟩,h.2⟩
   | _=>rw[he]at h;exact⟨trivial,h⟩
  rcases List.mem_cons.1 hx with rfl|hx
  ·exact key.1
  ·exact zoi key.2 x hx
def zda (s:St) (ops:Array Oper) (j:Nat):D:=match (ops[j]?).bind (·.dst)with
 | some t=>s.env.at t
 | none=>.any
def zbH (b:Bool):D→Option Bool
 | .dat _ (.bool c)=>some (c == b)
 | .grd q d=>match zbH b d with
  | some r=>some (q && r)
  | none=>none
 | _=>none
theorem zjQ {C:Cf} {m:Mem} {b:Bool}:∀ {d:D} {v:Value} {q:Bool},zbH b d=some q→RdD C m d v→((match v with | .bool c=>some c|_=>none) == some b)=q
 | .dat n x,v,q,h,hr=>by
  cases x with
  | bool c =>
   simp only[zbH,Option.some.injEq]at h
   have:=za4 hr
   subst this
   rw[←h]
   rfl
  | _=>simp[zbH]at h
 | .grd p d,v,q,h,hr=>by
  simp only[zbH]at h
  cases hd:zbH b d with
  | none=>simp[hd]at h
  | some r =>
   simp only[hd,Option.some.injEq]at h
   subst h
   cases p with
   | true=>simpa using zjQ hd (hr.1 rfl)
   | false =>
    have:=hr.2 rfl
    subst this
    rfl
 | .any,_,_,h,_ | .nil,_,_,h,_ | .own _ _ _ _,_,_,h,_ | .ptr _ _,_,_,h,_ | .rptr _ _ _ _,_,_,h,_ | .mp _,_,_,h,_ | .sl _ _,_,_,h,_ | .aggd _,_,_,h,_ | .fnd _ _,_,_,h,_=>by simp[zbH]at h
theorem ziM {C:Cf} {s:St} {a:Act} {ops:Array Oper} {o:Oper} {j:Nat} {b q:Bool} (h:Holds C s a) (ho:o.guard=some (j,b)) (hg:zbH b (zda s ops j)=some q):Region.wanted o (yielded ops a.tmps)=q:=by
 unfold zda at hg
 simp only[Region.wanted,ho]
 unfold yielded
 cases ht:(ops[j]?).bind (·.dst)with
 | none=>rw[ht]at hg;simp[zbH]at hg
 | some t =>
  rw[ht]at hg
  have hg:zbH b (s.env.at t)=some q:=hg
  have hr:=zjQ hg (h.env t)
  rw[Array.getD_eq_getD_getElem?]at hr
  cases hx:a.tmps[t]? with
  | none =>
   rw[hx]at hr
   simp only[Option.bind_some,hx]
   rw[←hr]
   rfl
  | some v =>
   rw[hx]at hr
   simp only[Option.getD_some]at hr
   simp only[Option.bind_some,hx]
   rw[←hr]
   cases v<;>rfl
inductive GStep (P:Program) (ops:Array Oper) (o:Oper) (s:St):List Nat→D→Mem→Prop
 | plain {rd:List Nat} {val:D} {wr:Mem} (hg:o.guard=none) (h:SStep P o (ev s) s.mem rd val wr):GStep P ops o s rd val wr
 | on {rd:List Nat} {val:D} {wr:Mem} {j:Nat} {b:Bool} (hg:o.guard=some (j,b)) (hj:zbH b (zda s ops j)=some true) (h:SStep P o (ev s) s.mem rd val wr):GStep P ops o s rd val wr
 | off {j:Nat} {b:Bool} (hg:o.guard=some (j,b)) (hj:zbH b (zda s ops j)=some false):GStep P ops o s [] .any []
 | may {rd:List Nat} {val:D} {j:Nat} {b q:Bool} (e':Operand→D) (hg:o.guard=some (j,b)) (hj:zbH b (zda s ops j)=some q)
   (hn:q=true→∀ x,x∈o.op.operands→∀ C m v,RdD C m (ev s x) v→RdD C m (e' x) v) (h:q=true→SStep P o e' s.mem rd val []):GStep P ops o s rd (.grd q val) []
def dOK (s:St):Option Tmp→Bool
 | some t=>Nat.blt t s.n
 | none=>true
theorem zcQ {C C':Cf} {s:St} {a:Act} {dst:Option Tmp} {val:D} {wr:Mem} {v:Value} (h:Holds C s a) (hs:Step C s.mem C' (wr++s.mem)) (hv:RdD C' (wr++s.mem) val v) (hd:dOK s dst=true) :
  Holds C' (s.put dst val wr) (a.put dst v):=by
 cases dst with
 | none=>exact⟨hs.holds,h.defers,h.size,fun t=>hs.slot _ _ (h.env t)⟩
 | some d =>
  have hlt:d<a.tmps.size:=by rw[h.size];simpa[dOK,Nat.blt_eq]using hd
  refine⟨hs.holds,h.defers,by simpa[Act.put,St.put]using h.size,fun t=>?_⟩
  show RdD C' (wr++s.mem) (Env.at ((d,val)::s.env) t) ((a.put (some d) v).tmps.getD t undef)
  by_cases hdt:d=t
  ·subst hdt
   have:(a.put (some d) v).tmps.getD d undef=v:=by simp[Act.put,hlt]
   rw[this]
   have h2:Env.at ((d,val)::s.env) d=val:=zcP _ _ _ _
   rw[h2];exact hv
  ·have:(a.put (some d) v).tmps.getD t undef=a.tmps.getD t undef:=by
    simp[Act.put,hdt]
   rw[this]
   have h2:Env.at ((d,val)::s.env) t=s.env.at t:=zcL _ _ _ _ _ hdt
   rw[h2]
   exact hs.slot _ _ (h.env t)
def DRun (P:Program) (ops:Array Oper):List Oper→St→List (List Nat×List Nat)→St→Prop
 | [],s,tr,s'=>tr=[]∧s'=s
 | o::r,s,tr,s'=>∃ rd val wr tr',tr=(rd,wr.map (·.1))::tr'∧dOK s o.dst=true∧GStep P ops o s rd val wr∧DRun P ops r (s.put o.dst val wr) tr' s'
def DOps (P:Program) (ops:Array Oper) (l:List Oper) (s:St) (acc:List (List Nat×List Nat)) (K:List (List Nat×List Nat)→St→Prop):Prop :=
 ∃ tr s',DRun P ops l s tr s'∧K (tr.reverse++acc) s'
theorem dnil {P:Program} {ops:Array Oper} {s:St} {acc:List (List Nat×List Nat)} {K:List (List Nat×List Nat)→St→Prop} (h:K acc s):DOps P ops [] s acc K :=
 ⟨[],s,⟨rfl,rfl⟩,h⟩
theorem dstep {P:Program} {ops:Array Oper} {o:Oper} {r:List Oper} {s:St} {acc:List (List Nat×List Nat)} {K:List (List Nat×List Nat)→St→Prop} {rd:List Nat} {val:D} {wr:Mem}
  (hd:dOK s o.dst=true) (hg:GStep P ops o s rd val wr) (k:DOps P ops r (s.put o.dst val wr) ((rd,wr.map (·.1))::acc) K):DOps P ops (o::r) s acc K:=by
 obtain⟨tr,s',h,hK⟩:=k
 exact⟨_::tr,s',⟨rd,val,wr,tr,rfl,hd,hg,h⟩,by simpa using hK⟩
section
variable {P : Program} {ops : Array Oper} {r : List Oper} {env : Env} {mem : Mem} {nt : Nat} {acc : List (List Nat × List Nat)} {K : List (List Nat × List Nat) → St → Prop} {rd : List Nat} {val : D} {wr : Mem}
 {t:Nat} {op:Op} {ty:TypeId} {pos:String} {af:Array Edge}
theorem dm {g:Nat} {bx:Box} (hd:Nat.blt t nt=true) (h:SStep P ⟨some t,op,ty,pos,af,none⟩ (ev ⟨env,mem,nt⟩) mem rd val [(g,bx)]) (k:DOps P ops r ⟨(t,val)::env,(g,bx)::mem,nt⟩ ((rd,[g])::acc) K) :
  DOps P ops (⟨some t,op,ty,pos,af,none⟩::r) ⟨env,mem,nt⟩ acc K:=dstep hd (.plain rfl h) k
theorem Wi {j:Nat} {b:Bool} (hd:Nat.blt t nt=true) (hj:zbH b (zda ⟨env,mem,nt⟩ ops j)=some false)
  (k:DOps P ops r ⟨(t,.grd false (.dat true (.bool false)))::env,mem,nt⟩ (([],[])::acc) K):DOps P ops (⟨some t,op,ty,pos,af,some (j,b)⟩::r) ⟨env,mem,nt⟩ acc K :=
 dstep hd (.may (fun _=>.any) rfl hj (fun h=>by cases h) (fun h=>by cases h)) k
theorem ztU {j:Nat} {b q:Bool} (hd:Nat.blt t nt=true) (hj:zbH b (zda ⟨env,mem,nt⟩ ops j)=some q) (hn:q=true→needs ⟨env,mem,nt⟩ op.operands.toList)
  (h:q=true→SStep P ⟨some t,op,ty,pos,af,some (j,b)⟩ (fun x=>ung (ev ⟨env,mem,nt⟩ x)) mem rd val [])
  (k:DOps P ops r ⟨(t,.grd q val)::env,mem,nt⟩ ((rd,[])::acc) K):DOps P ops (⟨some t,op,ty,pos,af,some (j,b)⟩::r) ⟨env,mem,nt⟩ acc K :=
 dstep hd (.may _ rfl hj (fun hq x hx C m v hv=>zr7 hv (zoi (hn hq) x (by simpa using hx))) h) k
theorem Pa {j:Nat} {b q p c n1 n2 n3:Bool} {x y z:Operand} (hd:Nat.blt t nt=true) (hj:zbH b (zda ⟨env,mem,nt⟩ ops j)=some q) (h1:ev ⟨env,mem,nt⟩ x = .grd q (.dat n1 (.bool p))) (h2:ev ⟨env,mem,nt⟩ y = .grd (q && (p == true)) (.dat n2 (.bool c))) (h3:ev ⟨env,mem,nt⟩ z = .dat n3 (.bool false))
  (k:DOps P ops r ⟨(t,.grd q (.dat true (.bool (p && c))))::env,mem,nt⟩ (([],[])::acc) K):DOps P ops (⟨some t,.pick x y z,ty,pos,af,some (j,b)⟩::r) ⟨env,mem,nt⟩ acc K :=
 dstep hd (.may _ rfl hj (fun _ _ _ _ _ _ hv=>hv) (fun hq=>zlh (by rw[h1,hq]) (by rw[h2,hq]) h3)) k
theorem Po {j:Nat} {b q p c n1 n2 n3:Bool} {x y z:Operand} (hd:Nat.blt t nt=true) (hj:zbH b (zda ⟨env,mem,nt⟩ ops j)=some q) (h1:ev ⟨env,mem,nt⟩ x = .grd q (.dat n1 (.bool p))) (h2:ev ⟨env,mem,nt⟩ y = .dat n2 (.bool true)) (h3:ev ⟨env,mem,nt⟩ z = .grd (q && (p == false)) (.dat n3 (.bool c)))
  (k:DOps P ops r ⟨(t,.grd q (.dat true (.bool (p || c))))::env,mem,nt⟩ (([],[])::acc) K):DOps P ops (⟨some t,.pick x y z,ty,pos,af,some (j,b)⟩::r) ⟨env,mem,nt⟩ acc K :=
 dstep hd (.may _ rfl hj (fun _ _ _ _ _ _ hv=>hv) (fun hq=>zm7 (by rw[h1,hq]) h2 (by rw[h3,hq]))) k
end
theorem ziN {P:Program} {ops:Array Oper} {o:Oper} {s:St} {rd:List Nat} {val:D} {wr:Mem} (hg:GStep P ops o s rd val wr) (hd:dOK s o.dst=true) {C:Cf} {a:Act} (h:Holds C s a)
  {next:Act→World→Prop} {Q:Exit→Act→World→Prop}
  (hn:∀ C' a',Holds C' (s.put o.dst val wr) a'→Step C s.mem C' (s.put o.dst val wr).mem→next a' C'.w) :
  if Region.wanted o (yielded ops a.tmps)then o.wp P a C.w next Q else next (a.put o.dst undef) C.w:=by
 have go:SStep P o (ev s) s.mem rd val wr→o.wp P a C.w next Q:=fun hs =>
  hs C s.mem a next Q (fun _ _=>rfl) h.mem (fun x _=>zjP h x) (fun v C' hst hv=>hn C' _ (zcQ h hst hv hd) hst)
 cases hg with
 | plain hg hs =>
  rw[if_pos (by simp[Region.wanted,hg])]
  exact go hs
 | on hg hj hs =>
  rw[if_pos (ziM h hg hj)]
  exact go hs
 | @off j b hg hj =>
  rw[if_neg (by rw[ziM h hg hj];simp)]
  exact hn C _ (zcQ (wr := []) h (Step.refl h.mem) trivial hd) (Step.refl h.mem)
 | @may _ val j b q e' hg hj hnd hs =>
  have hw:=ziM h hg hj
  cases q with
  | true =>
   rw[if_pos hw]
   exact hs rfl C s.mem a next Q (fun _ _=>rfl) h.mem (fun x hx=>hnd rfl x hx C _ _ (zjP h x))
    (fun v C' hst hv=>hn C' _ (zcQ (wr := []) h hst ⟨fun _=>hv,fun hf=>nomatch hf⟩ hd) hst)
  | false =>
   rw[if_neg (by rw[hw];simp)]
   exact hn C _ (zcQ (wr := []) h (Step.refl h.mem) ⟨(fun hb=>nomatch hb),fun _=>rfl⟩ hd) (Step.refl h.mem)
theorem zcH {P:Program} {ops:Array Oper} {Q:Exit→Act→World→Prop}:∀ (l:List Oper) (s:St) (tr:List (List Nat×List Nat)) (s':St) (C:Cf) (a:Act),DRun P ops l s tr s'→Holds C s a →
  (∀ C' a',Holds C' s' a'→Step C s.mem C' s'.mem→Q .normal a' C'.w)→wpList P ops Q l a C.w
 | [],s,tr,s',C,a,⟨_,hs⟩,h,hQ=>by
  subst hs
  exact hQ C a h (Step.refl h.mem)
 | o::r,s,tr,s',C,a,⟨rd,val,wr,tr',_,hd,hg,hr⟩,h,hQ=>by
  refine wpList_step fun K hK=>?_
  have:=ziN (next:=K) (Q:=Q) hg hd h (fun C' a' h' he=>hK _ _ (zcH r _ tr' s' C' a' hr h' (fun C2 a2 h2 e2=>hQ C2 a2 h2 (he.trans e2))))
  exact this
def DW (P:Program) (c:Code) (Q:Exit→St→Prop) (s:St):Prop :=
 ∀ (C:Cf) (a:Act),Holds C s a→c.wp P (fun e a' w'=>∃ C' s',C'.w=w'∧Q e s'∧Holds C' s' a'∧Ext C s.mem C' s'.mem) a C.w
def Wk (s s':St):Prop:=∀ (C:Cf) (a:Act),Holds C s a→∃ C',C'.w=C.w∧Holds C' s' a∧Ext C s.mem C' s'.mem
section
variable {P : Program} {Q Q' : Exit → St → Prop} {s s' : St}
theorem zaZ {c:Code} (h:Wk s s') (k:DW P c Q s'):DW P c Q s:=fun C a hh=>by
 obtain⟨C',e,h',x⟩:=h C a hh
 have:=k C' a h'
 rw[e]at this
 exact Code.wp_mono (fun ex a2 w2 ⟨C2,s2,e2,q2,h2,x2⟩=>⟨C2,s2,e2,q2,h2,x.trans x2⟩) this
theorem zsr (h:Q .normal s):DW P .skip Q s:=fun C _a hh=>wp_skip ⟨C,s,rfl,h,hh,Ext.refl _ _⟩
theorem zss {id:Nat} (h:Q (.exit id) s):DW P (.exit id) Q s:=fun C _a hh=>wp_exit ⟨C,s,rfl,h,hh,Ext.refl _ _⟩
theorem zgB (h:Q .ret s):DW P .ret Q s:=fun C _a hh=>wp_ret ⟨C,s,rfl,h,hh,Ext.refl _ _⟩
def zaG (K:St→Prop) (Q:Exit→St→Prop):Exit→St→Prop
 | .normal,s=>K s
 | e,s=>Q e s
theorem zoj {x y:Code} (h:DW P x (zaG (DW P y Q) Q) s):DW P (.seq x y) Q s:=fun C a hh=>by
 refine wp_seq (Code.wp_mono ?_ (h C a hh))
 rintro e a1 w1 ⟨C1,s1,rfl,q1,h1,x1⟩
 cases e with
 | normal=>exact Code.wp_mono (fun ex a2 w2 ⟨C2,s2,e2,q2,h2,x2⟩=>⟨C2,s2,e2,q2,h2,x1.trans x2⟩) (q1 C1 a1 h1)
 | _=>exact⟨C1,s1,rfl,q1,h1,x1⟩
theorem We {c:Operand} {x y:Code} {n:Bool} (hc:ev s c = .dat n (.bool true)) (h:DW P x Q s):DW P (.cond c x y) Q s:=fun C a hh=>by
 have he:=zjP hh c
 rw[hc]at he
 exact wp_cond_true (za4 he) (h C a hh)
theorem Wf {c:Operand} {x y:Code} {n:Bool} (hc:ev s c = .dat n (.bool false)) (h:DW P y Q s):DW P (.cond c x y) Q s:=fun C a hh=>by
 have he:=zjP hh c
 rw[hc]at he
 exact wp_cond_false (za4 he) (h C a hh)
theorem zat {c:Operand} {x y:Code} {n b:Bool} (hc:ev s c = .dat n (.bool b)) (ht:b=true→DW P x Q s) (hf:b=false→DW P y Q s):DW P (.cond c x y) Q s:=fun C a hh=>by
 have he:=zjP hh c
 rw[hc]at he
 exact wp_cond_split (za4 he) (fun h=>ht h C a hh) (fun h=>hf h C a hh)
def zaE (id:Nat) (Q:Exit→St→Prop):Exit→St→Prop
 | .exit id',s=>if id'=id then Q .normal s else Q (.exit id') s
 | e,s=>Q e s
theorem zqx {id:Nat} {c:Code} (h:DW P c (zaE id Q) s):DW P (.block id c) Q s:=fun C a hh=>by
 refine wp_block (Code.wp_mono ?_ (h C a hh))
 rintro e a1 w1 ⟨C1,s1,rfl,q1,h1,x1⟩
 cases e with
 | exit id' =>
  simp only[zaE,Exit.inBlock]at q1 ⊢
  split at q1
  ·rename_i hid;rw[if_pos hid];exact⟨C1,s1,rfl,q1,h1,x1⟩
  ·rename_i hid;rw[if_neg hid];exact⟨C1,s1,rfl,q1,h1,x1⟩
 | _=>exact⟨C1,s1,rfl,q1,h1,x1⟩
theorem zok {id:Nat} {l:List Oper} (h:DOps P l.toArray l s [] (fun _ s'=>Q .normal s')):DW P (.region id l.toArray false) Q s:=fun C a hh=>by
 obtain⟨tr,s',hr,hq⟩:=h
 exact wp_region_lit (zcH l s tr s' C a hr hh (fun C' a' h' x'=>⟨C',s',rfl,hq,h',x'.ext⟩))
theorem zlj {K:St→Prop} (h:K s):zaG K Q .normal s:=h
theorem zol {K:St→Prop} {id:Nat} (h:Q (.exit id) s):zaG K Q (.exit id) s:=h
theorem zqy {K:St→Prop} (h:Q .ret s):zaG K Q .ret s:=h
theorem zm8 {id:Nat} (h:Q .normal s):zaE id Q .normal s:=h
theorem zst {id:Nat} (h:Q .ret s):zaE id Q .ret s:=h
theorem Wb {id id':Nat} (hi:Nat.beq id' id=true) (h:Q .normal s):zaE id Q (.exit id') s:=by
 have:=Nat.eq_of_beq_eq_true hi
 simp only[zaE,if_pos this];exact h
def zaJ {X:Type} (inv:X→St) (R:X→Prop) (μ:X→Nat) (x:X) (Q:Exit→St→Prop):Exit→St→Prop
 | .normal,s=>∃ x',R x'∧μ x'<μ x∧Wk s (inv x')
 | e,s=>Q e s
theorem zag {X:Type} (inv:X→St) (R:X→Prop) (μ:X→Nat) {c:Code} (x0:X) (h0:R x0) (hw:Wk s (inv x0))
  (round:∀ x,R x→DW P c (zaJ inv R μ x Q) (inv x)):DW P (.loop c) Q s:=by
 refine zaZ hw ?_
 intro C a hh b k cs
 have key:∀ (n:Nat) (x:X) (C1:Cf) (a1:Act),μ x=n→R x→Holds C1 (inv x) a1 →
   ∃ e a' w',(∃ C' s',C'.w=w'∧Q e s'∧Holds C' s' a'∧Ext C1 (inv x).mem C' s'.mem)∧Arrives P (lone (b.at a1 (.code c :: .inLoop c::k)) cs C1.w) b k cs e a' w':=by
  intro n
  induction n using Nat.strongRecOn with
  | _ n ih =>
   intro x C1 a1 hn hR h1
   obtain⟨e,a2,w2,⟨C2,s2,rfl,q2,h2,x2⟩,harr⟩:=round x hR C1 a1 h1 b (.inLoop c::k) cs
   cases e with
   | normal =>
    obtain⟨x',hR',hlt,hwk⟩:=q2
    obtain⟨C3,e3,h3,x3⟩:=hwk C2 a2 h2
    obtain⟨e4,a4,w4,⟨C4,s4,hw4,q4,h4,x4⟩,harr4⟩:=ih (μ x') (hn▸hlt) x' C3 a2 rfl hR' h3
    rw[e3]at harr4
    exact⟨e4,a4,w4,⟨C4,s4,hw4,q4,h4,(x2.trans x3).trans x4⟩,.of_steps (Steps.trans harr (.one step_inLoop)) harr4⟩
   | exit id=>exact⟨_,a2,_,⟨C2,s2,rfl,q2,h2,x2⟩,.pass (x := .inLoop c) rfl (fun _ _=>.inl (by simp)) harr⟩
   | goto l=>exact⟨_,a2,_,⟨C2,s2,rfl,q2,h2,x2⟩,.pass (x := .inLoop c) rfl (fun _ _=>.inl (by simp)) harr⟩
   | ret=>exact⟨_,a2,_,⟨C2,s2,rfl,q2,h2,x2⟩,.pass (x := .inLoop c) rfl (fun _ _=>.inl (by simp)) harr⟩
   | panic ch=>exact⟨_,a2,_,⟨C2,s2,rfl,q2,h2,x2⟩,.pass (x := .inLoop c) rfl (fun _ _=>.inl (by simp)) harr⟩
   | outgrown=>exact⟨_,a2,_,⟨C2,s2,rfl,q2,h2,x2⟩,.pass (x := .inLoop c) rfl (fun _ _=>.inl (by simp)) harr⟩
 obtain⟨e,a',w',hq,harr⟩:=key _ x0 C a rfl h0 hh
 exact⟨e,a',w',hq,.of_steps (.one step_loop) harr⟩
theorem zaa {X:Type} {inv:X→St} {R:X→Prop} {μ:X→Nat} {x:X} (x':X) (hR:R x') (hm:μ x'<μ x) (hw:Wk s (inv x')):zaJ inv R μ x Q .normal s:=⟨x',hR,hm,hw⟩
theorem zom {X:Type} {inv:X→St} {R:X→Prop} {μ:X→Nat} {x:X} {id:Nat} (h:Q (.exit id) s):zaJ inv R μ x Q (.exit id) s:=h
theorem zqz {X:Type} {inv:X→St} {R:X→Prop} {μ:X→Nat} {x:X} (h:Q .ret s):zaJ inv R μ x Q .ret s:=h
end
def RdL (S:Nat→Prop) (w:World) (ds:List V) (vs:Array Value):Prop:=vs.size=ds.length∧∀ (j:Nat) d c,ds[j]? = some d→vs[j]? = some c→Rd S w d c
def newB (w w':World):Nat→Prop:=fun b=>w.heap.size≤b∧b<w'.heap.size
def Callable (P : Program) (f : FuncId) : Prop := ∃ fn, P.funcs[f]? = some fn ∧ fn.body.isNone = false ∧ (fn.name == "runtime.NumGoroutine") = false
def FnF (P:Program) (f:FuncId) (ds:List V) (r:V):Prop:=Callable P f ∧
 ∀ (S:Nat→Prop) (w:World) (vs:Array Value),(∀ b,S b→b<w.heap.size)→RdL S w ds vs →
  Calls P f vs w fun e w'=>∃ v,e = .returned v∧Below w.heap.size w w'∧Rd (newB w w') w' r v
def zap : Nat→List V→Env
 | _,[]=>[]
 | i,d::r=>(i,.dat false d)::zap (i+1) r
theorem ziO : ∀ (ds:List V) (i t:Nat),Env.at (zap i ds) t=if i≤t then(match ds[t-i]? with|some d=>.dat false d|none=>.any)else .any
 | [],i,t=>by simp[zap,Env.at,look]
 | d::r,i,t=>by
  have ih:=ziO r (i+1) t
  by_cases h:i=t
  ·subst h
   rw[if_pos (Nat.le_refl _),Nat.sub_self]
   exact zcP _ _ _ _
  ·have:Env.at (zap i (d::r)) t=Env.at (zap (i+1) r) t:=zcL _ _ _ _ _ h
   rw[this,ih]
   by_cases h2:i+1≤t
   ·rw[if_pos h2,if_pos (by omega)]
    obtain⟨q,hq⟩:∃ q,t-i=q+1:=⟨t-i-1,by omega⟩
    rw[hq,List.getElem?_cons_succ,show t-(i+1)=q by omega]
   ·rw[if_neg h2,if_neg (by omega)]
inductive RetOK (P:Program) (s:St):List ResultVar→List V→Prop
 | nil:RetOK P s [] []
 | tmp {t:Tmp} {n:Bool} {x:V} {rs:List ResultVar} {xs:List V} (h:asV s.mem (s.env.at t)=some (n,x)) (hn:n=true∨Flat x) (r:RetOK P s rs xs):RetOK P s (.tmp t::rs) (x::xs)
 | cellA {a:Tmp} {T:TypeId} {sz by_ g:Nat} {zs:List V} {frz nw n:Bool} {cs:List D} {ys:List V} {rs:List ResultVar} {xs:List V} (ht:TyI P T true sz by_ zs) (h:s.env.at a = .ptr g 0) (hm:s.mem.at g = .cells frz nw cs)
   (hc:asVs s.mem cs=some (n,ys)) (hl:Nat.beq cs.length sz=true) (hn:n=true∨Flat (.agg ys)) (r:RetOK P s rs xs):RetOK P s (.cell a T::rs) (.agg ys::xs)
 | cellO {a:Tmp} {T:TypeId} {sz by_ g:Nat} {zs:List V} {frz nw n:Bool} {c:D} {y:V} {rs:List ResultVar} {xs:List V} (ht:TyI P T false sz by_ zs) (h:s.env.at a = .ptr g 0) (hm:s.mem.at g = .cells frz nw [c])
   (hc:asV0 s.mem c=some (n,y)) (hn:n=true∨Flat y) (r:RetOK P s rs xs):RetOK P s (.cell a T::rs) (y::xs)
def pack : List V→V
 | [x]=>x
 | xs=>.tuple xs
def retQ (P:Program) (res:List ResultVar) (r:V):Exit→St→Prop
 | .normal,s=>∃ xs,RetOK P s res xs∧pack xs=r
 | .ret,s=>∃ xs,RetOK P s res xs∧pack xs=r
 | _,_=>False
def zb6 (tmps:Array Value):ResultVar→Sem Value
 | .tmp t=>pure (tmps.getD t undef)
 | .cell a t=>do loadVar t (←asAddr (tmps.getD a undef))
def zqA : List Value→Value
 | [v]=>v
 | vs=>.tuple vs.toArray
theorem zmn {α:Type} {P:Program} {w:World} (f:α→Sem Value):∀ (l:List α) (vs:List Value),vs.length=l.length→(∀ (j:Nat) x v,l[j]? = some x→vs[j]? = some v→(f x).run P w = .ok v w) →
  (l.mapM f).run P w = .ok vs w
 | [],vs,hl,_=>by
  cases vs with
  | nil=>simp
  | cons a l=>simp at hl
 | x::l,vs,hl,h=>by
  cases vs with
  | nil=>simp at hl
  | cons v vs =>
   have h0:=h 0 x v rfl rfl
   have ih:=zmn f l vs (by simpa using hl) (fun j x v h1 h2=>h (j+1) x v h1 h2)
   simp[h0,ih]
theorem zbR {P:Program} {w:World} {fn:Func} {tmps:Array Value} (vs:List Value) (hl:vs.length=fn.results.toList.length)
  (h:∀ (j:Nat) x v,fn.results.toList[j]? = some x→vs[j]? = some v→(zb6 tmps x).run P w = .ok v w) :
  (results fn tmps).run P w = .ok (zqA vs) w:=by
 have he:fn.results.mapM (zb6 tmps)=List.toArray <$> fn.results.toList.mapM (zb6 tmps):=by
  cases fn.results;simp
 have h1:results fn tmps=(do let us ← fn.results.mapM (zb6 tmps);pure (if h:us.size=1 then us[0]else .tuple us)):=by
  unfold results
  congr 1
 rw[h1,he]
 simp only[Sem.run_bind,Sem.run_map,zmn (zb6 tmps) _ vs hl h,Result.andThen_ok,Sem.run_pure]
 match vs with
 | []=>rfl
 | [v]=>rfl
 | a::b::l=>simp[zqA]
theorem zmo {P:Program} {C:Cf} {s:St} {a:Act} (h:Holds C s a) {rs:List ResultVar} {xs:List V} (hr:RetOK P s rs xs) :
  ∃ vs:List Value,vs.length=rs.length∧xs.length=rs.length∧(∀ (j:Nat) x v,rs[j]? = some x→vs[j]? = some v→(zb6 a.tmps x).run P C.w = .ok v C.w) ∧
   (∀ (j:Nat) x v,xs[j]? = some x→vs[j]? = some v→RdF C true x v):=by
 have flagged:∀ {n:Bool} {x:V} {v:Value},RdF C n x v→(n=true∨Flat x)→RdF C true x v:=by
  intro n x v hv hn
  rcases hn with rfl|hf
  ·exact hv
  ·exact hv.flat hf
 have glue:∀ {r:ResultVar} {rs:List ResultVar} {x:V} {xs:List V} {v:Value},(zb6 a.tmps r).run P C.w = .ok v C.w→RdF C true x v →
   (∃ vs:List Value,vs.length=rs.length∧xs.length=rs.length∧(∀ (j:Nat) x v,rs[j]? = some x→vs[j]? = some v→(zb6 a.tmps x).run P C.w = .ok v C.w)∧(∀ (j:Nat) x v,xs[j]? = some x→vs[j]? = some v→RdF C true x v)) →
   ∃ vs:List Value,vs.length=(r::rs).length∧(x::xs).length=(r::rs).length∧(∀ (j:Nat) x v,(r::rs)[j]? = some x→vs[j]? = some v→(zb6 a.tmps x).run P C.w = .ok v C.w)∧(∀ (j:Nat) y v,(x::xs)[j]? = some y→vs[j]? = some v→RdF C true y v):=by
  rintro r rs x xs v h1 h2 ⟨vs,l1,l2,r1,r2⟩
  refine⟨v::vs,by simp[l1],by simp[l2],fun j y u hy hu=>?_,fun j y u hy hu=>?_⟩
  ·cases j with
   | zero=>simp at hy hu;subst hy;subst hu;exact h1
   | succ j=>exact r1 j y u (by simpa using hy) (by simpa using hu)
  ·cases j with
   | zero=>simp at hy hu;subst hy;subst hu;exact h2
   | succ j=>exact r2 j y u (by simpa using hy) (by simpa using hu)
 induction hr with
 | nil=>exact⟨[],rfl,rfl,by simp,by simp⟩
 | @tmp t n x rs xs hx hn r ih=>exact glue (by rfl) (flagged (zcF h.mem (fun _ _=>rfl) hx (h.env t)) hn) ih
 | @cellA t T sz by_ g zs frz nw n cs ys rs xs ht hp hm hc hl hn r ih =>
  have hp':=h.env t
  rw[hp]at hp'
  obtain⟨frz',nw',cs',b,hat,hi,hv⟩:=hp'
  have hb:=h.mem.box g
  rw[hm]at hb hat
  injection hat with e1 e2 e3
  subst e1;subst e2;subst e3
  obtain⟨b',hi',arr,T',fz,h1,h2,h3,h4,h5⟩:=hb
  rw[hi]at hi'
  injection hi' with hi'
  subst hi'
  have hl:=Nat.eq_of_beq_eq_true hl
  obtain⟨hlen,hall⟩:=zfo h.mem cs n ys (fun _ _=>rfl) hc
  have hcell:∀ j,j<sz→arr[j]? = some (arr.getD j undef):=fun j hj=>by
   have:j<arr.size:=by omega
   simp[Array.getElem?_eq_getElem this]
  refine glue (v := .agg ((List.range sz).map fun j=>arr.getD j undef).toArray) ?_ (flagged (n:=n) ?_ hn) ih
  ·simp only[zb6,hv,asAddr,Sem.run_bind,Sem.run_pure,Result.andThen_ok]
   exact zbi ht C.w _ (fun j=>arr.getD j undef) (fun j hj=>by rw[aadd,zaz h1,Nat.zero_add];exact hcell j hj)
  ·refine Rd.agg ys _ (by simp;omega) (fun j d c hd hcv=>?_)
   have hj:j<sz:=by have:=(List.getElem?_eq_some_iff.1 hd).1;omega
   have hce:c=arr.getD j undef:=by simpa[hj]using hcv.symm
   subst hce
   have hcs:cs[j]? = some (cs[j]'(by omega)):=List.getElem?_eq_getElem _
   exact hall j _ d _ hcs hd (h4 _ _ _ hcs (hcell j hj))
 | @cellO t T sz by_ g zs frz nw n c y rs xs ht hp hm hc hn r ih =>
  have hp':=h.env t
  rw[hp]at hp'
  obtain⟨frz',nw',cs',b,hat,hi,hv⟩:=hp'
  have hb:=h.mem.box g
  rw[hm]at hb hat
  injection hat with e1 e2 e3
  subst e1;subst e2;subst e3
  obtain⟨b',hi',arr,T',fz,h1,h2,h3,h4,h5⟩:=hb
  rw[hi]at hi'
  injection hi' with hi'
  subst hi'
  have hlt:0<arr.size:=by simp at h3;omega
  have hg:arr[0]? = some arr[0]:=Array.getElem?_eq_getElem hlt
  refine glue (v:=arr[0]) ?_ (flagged (n:=n) (zeE h.mem (fun _ _=>rfl) hc (h4 0 c _ rfl hg).rd) hn) ih
  simp only[zb6,hv,asAddr,Sem.run_bind,Sem.run_pure,Result.andThen_ok]
  exact zb5 ht C.w _ arr[0] (by rw[zaz h1];exact hg)
theorem zsu {C:Cf} {xs:List V} {vs:List Value} (hl:vs.length=xs.length) (h:∀ (j:Nat) x v,xs[j]? = some x→vs[j]? = some v→RdF C true x v) :
  RdF C true (pack xs) (zqA vs):=by
 match xs,vs,hl with
 | [],[],_=>exact Rd.tuple [] #[] rfl (by simp)
 | [x],[v],_=>exact h 0 x v rfl rfl
 | x::y::l,u::v::k,hl=>exact Rd.tuple _ _ (by simpa using hl) (fun j d c h1 h2=>h j d c h1 (by simpa using h2))
theorem zlk (S:Nat→Prop) (w:World) (vs:Array Value) (ds:List V) (n:Nat) (hS:∀ b,S b→b<w.heap.size) (hr:RdL S w ds vs) (hn:ds.length≤n) :
  Holds ⟨fun _=>none,S,fun _=>False,w⟩ ⟨zap 0 ds,[],n⟩ ⟨vs++Array.replicate (n-vs.size) undef,[]⟩:=by
 refine⟨⟨fun g=>trivial,fun g g' b (h:Box.gone≠Box.gone)=>absurd rfl h,fun g b (h:false=true)=>by(cases h),hS,fun b (h:False)=>h.elim⟩,rfl,by simp[hr.1];omega,fun t=>?_⟩
 rw[ziO,if_pos (Nat.zero_le _),Nat.sub_zero]
 cases hd:ds[t]? with
 | none=>exact trivial
 | some d =>
  have hlt:t<vs.size:=by rw[hr.1];exact(List.getElem?_eq_some_iff.1 hd).1
  have hv:vs[t]? = some vs[t]:=Array.getElem?_eq_getElem hlt
  have:(vs++Array.replicate (n-vs.size) undef).getD t undef=vs[t]:=by
   rw[Array.getD_eq_getD_getElem?,Array.getElem?_append_left hlt,hv];rfl
  rw[this]
  exact hr.2 t d _ hd hv
theorem zal {P : Program} {f : FuncId} {fn : Func} {c : Code} {ds : List V} {r : V} (hf : P.funcs[f]? = some fn) (hb : fn.body = some c) (hn : Nat.ble ds.length fn.ntmps = true) (hname : (fn.name == "runtime.NumGoroutine") = false)
  (h:DW P c (retQ P fn.results.toList r) ⟨zap 0 ds,[],fn.ntmps⟩):FnF P f ds r:=by
 refine⟨⟨fn,hf,by rw[hb];rfl,hname⟩,?_⟩
 intro S w vs hS hr
 refine calls_of_wp hf hb ?_
 have h0:=zlk S w vs ds fn.ntmps hS hr (Nat.le_of_ble_eq_true hn)
 refine Code.wp_mono ?_ (h _ _ h0)
 rintro e a' w' ⟨C',s',rfl,hq,h',hx⟩
 have fin:(∃ xs,RetOK P s' fn.results.toList xs∧pack xs=r)→a'.defers=[]∧∃ v,(results fn a'.tmps).run P C'.w = .ok v C'.w ∧
   ∃ v',Ending.returned v = .returned v'∧Below w.heap.size w C'.w∧Rd (newB w C'.w) C'.w r v':=by
  rintro⟨xs,hro,rfl⟩
  obtain⟨us,l1,l2,r1,r2⟩:=zmo h' hro
  refine⟨h'.defers,_,zbR us l1 r1,_,rfl,⟨hx.os,hx.tape,hx.output,hx.size,fun k hk=>hx.keep k hk (fun g hg=>by simp[Mem.at,look,Box.mut]at hg)⟩,?_⟩
  refine Rd.mono (zsu (by omega) r2) (fun b hb=>?_) (fun _ _=>rfl)
  refine⟨?_,h'.mem.sdom b (h'.mem.ns b hb)⟩
  rcases hx.supN b hb with h1|h1|⟨g0,h1,_⟩
  ·exact h1.elim
  ·exact h1
  ·simp[Mem.at,look,Box.mut]at h1
 cases e with
 | normal=>exact fin hq
 | ret=>exact fin hq
 | _=>exact hq.elim
end Go.Proofs.YtcdhlofhhcgohaaGreat
namespace Go.Proofs.YtcdhlofhhcgohaaGreat
open Go.RowKit
def asB0 (m:Mem):D→Option V
 | .dat _ x=>some x
 | .nil=>some (.slice [])
 | .own g ver lo len=>match m.at g with
  | .row ver' _ _ _ xs=>bif Nat.beq ver ver' then some (.slice ((xs.drop lo).take len))else none
  | _=>none
 | _=>none
def asBs (m:Mem):List D→Option (List V)
 | []=>some []
 | d::r=>match asB0 m d,asBs m r with
  | some x,some xs=>some (x::xs)
  | _,_=>none
def asB (m:Mem):D→Option V
 | .ptr g off=>match m.at g with
  | .cells _ _ cs=>match asBs m (cs.drop off)with
   | some xs=>bif xs.all V.one then some (.rp xs)else none
   | none=>none
  | _=>none
 | .rptr g ver i off=>match m.at g with
  | .row ver' _ _ _ xs=>bif Nat.beq ver ver' then(match xs[i]? with|some el=>some (.rp (el.drop off))|none=>none)else none
  | _=>none
 | .aggd cs=>match asBs m cs with
  | some xs=>some (.agg xs)
  | none=>none
 | d=>asB0 m d
def asBL (m:Mem):List D→Option (List V)
 | []=>some []
 | d::r=>match asB m d,asBL m r with
  | some x,some xs=>some (x::xs)
  | _,_=>none
def Cf.lent (C:Cf) (m:Mem):Nat→Prop:=fun b=>C.S b∨∃ g,m.at g ≠ .gone∧C.ι g=some b
theorem RdF.lend {C:Cf} {m:Mem} {n:Bool} {x:V} {v:Value} (h:RdF C n x v) (hm:HoldsM C m):Rd (C.lent m) C.w x v :=
 Rd.mono (h.weak hm) (fun _ h=>.inl h) (fun _ _=>rfl)
theorem ziP {C:Cf} {m:Mem} {d:D} {v:Value} {x:V} (hm:HoldsM C m) (h:asB0 m d=some x) (hd:RdD C m d v):Rd (C.lent m) C.w x v:=by
 cases d with
 | dat n x' =>
  simp only[asB0,Option.some.injEq]at h
  subst h
  exact RdF.lend (n:=n) hd hm
 | nil =>
  simp only[asB0,Option.some.injEq]at h
  subst h
  have hv:v = .slice none 0 0:=hd
  subst hv
  exact Rd.nil
 | own g ver lo len =>
  obtain⟨ver',frz,nw,sz,xs,hat,_,_,ho⟩:=hd
  simp only[asB0,hat]at h
  cases hb:Nat.beq ver ver' with
  | false=>simp[hb]at h
  | true =>
   simp only[hb,cond_true,Option.some.injEq]at h
   subst h
   obtain⟨hl,ho⟩:=ho (Nat.eq_of_beq_eq_true hb)
   have hbx:=hm.box g
   rw[hat]at hbx
   unfold OwnV at ho
   cases hi:C.ι g with
   | none =>
    simp only[hi]at ho
    simp only[BoxOK,hi]at hbx
    obtain⟨rfl,rfl,rfl⟩:=ho
    subst hbx
    exact Rd.nil
   | some b =>
    simp only[hi]at ho
    simp only[BoxOK,hi]at hbx
    obtain⟨cap,arr,T,fz,rfl,_,_,hc,hmx⟩:=ho
    obtain⟨arr',T',fz',h1,h2,h3,h4,h5,h6,h7⟩:=hbx
    refine zjM (nw:=nw) (.inr ⟨g,by rw[hat];simp,hi⟩) (fun b hb=>?_) ⟨arr',T',fz',h1,h2,h3,h4,h5,h6⟩ hl hc hmx
    cases nw
    ·exact .inl hb
    ·exact .inl (hm.ns _ hb)
 | _=>simp[asB0]at h
theorem zll {C:Cf} {m:Mem} (hm:HoldsM C m):∀ (ds:List D) (xs:List V),asBs m ds=some xs →
  xs.length=ds.length∧∀ (j:Nat) (d:D) (x:V) (v:Value),ds[j]? = some d→xs[j]? = some x→RdS C m d v→Rd (C.lent m) C.w x v
 | [],xs,h=>by
  simp only[asBs,Option.some.injEq]at h
  subst h
  simp
 | d :: r,xs,h=>by
  simp only[asBs]at h
  cases h0:asB0 m d with
  | none=>simp[h0]at h
  | some x0 =>
   cases h1:asBs m r with
   | none=>simp[h0,h1]at h
   | some x1 =>
    simp only[h0,h1,Option.some.injEq]at h
    subst h
    obtain⟨hl,ih⟩:=zll hm r x1 h1
    refine⟨by simp[hl],fun j d' x v hd hx hr=>?_⟩
    cases j with
    | zero =>
     simp only[List.getElem?_cons_zero,Option.some.injEq]at hd hx
     subst hd;subst hx
     exact ziP hm h0 hr.rd
    | succ j =>
     simp only[List.getElem?_cons_succ]at hd hx
     exact ih j d' x v hd hx hr
theorem zr8 {C:Cf} {m:Mem} {d:D} {v:Value} {x:V} (hm:HoldsM C m) (h:asB m d=some x) (hd:RdD C m d v):Rd (C.lent m) C.w x v:=by
 cases d with
 | ptr g off =>
  obtain⟨frz,nw,cs,b,hat,hi,rfl⟩:=hd
  simp only[asB,hat]at h
  cases hv:asBs m (cs.drop off)with
  | none=>simp[hv]at h
  | some xs =>
   simp only[hv]at h
   cases hone:xs.all V.one with
   | false=>simp[hone]at h
   | true =>
    simp only[hone,cond_true,Option.some.injEq]at h
    subst h
    have hb:=hm.box g
    rw[hat]at hb
    obtain⟨b',hi',arr,T,fz,h1,h2,h3,h4,h5⟩:=hb
    rw[hi]at hi'
    injection hi' with hi'
    subst hi'
    obtain⟨hl,hall⟩:=zll hm (cs.drop off) xs hv
    have hcell:∀ (j:Nat) (x:V),xs[j]? = some x→∃ d,(cs.drop off)[j]? = some d∧arr[off+j]? = some (arr.getD (off+j) undef)∧cs[off+j]? = some d:=by
     intro j x hx
     have hj:j<xs.length:=(List.getElem?_eq_some_iff.1 hx).1
     have hj2:j<(cs.drop off).length:=by omega
     refine⟨(cs.drop off)[j],List.getElem?_eq_getElem hj2,?_,?_⟩
     ·have:off+j<arr.size:=by simp at hj2;omega
      simp[Array.getElem?_eq_getElem this]
     ·rw[←List.getElem?_drop];exact List.getElem?_eq_getElem hj2
    refine Rd.rp xs b off (fun j=>arr.getD (off+j) undef) (fun j d hd=>?_) (.inr ⟨g,by rw[hat];simp,hi⟩) (fun j x hx=>?_) (fun j x hx=>?_)
    ·rw[List.all_eq_true]at hone
     exact hone d (List.mem_of_getElem? hd)
    ·obtain⟨d,hd,ha',_⟩:=hcell j x hx
     rw[zaz h1];exact ha'
    ·obtain⟨d,hd,ha',hd'⟩:=hcell j x hx
     exact hall j d x _ hd hx (h4 _ _ _ hd' ha')
 | rptr g ver i off =>
  obtain⟨ver',frz,nw,sz,xs,hat,_,_,ho⟩:=hd
  simp only[asB,hat]at h
  cases hbq:Nat.beq ver ver' with
  | false=>simp[hbq]at h
  | true =>
   obtain⟨hil,b,hi,rfl⟩:=ho (Nat.eq_of_beq_eq_true hbq)
   have hel:xs[i]? = some xs[i]:=List.getElem?_eq_getElem hil
   simp only[hbq,cond_true,hel,Option.some.injEq]at h
   subst h
   have hb:=hm.box g
   rw[hat]at hb
   simp only[BoxOK,hi]at hb
   obtain⟨arr,T,fz,h1,h2,h3,h4,h5,h6,h7⟩:=hb
   have hcell:∀ (j:Nat) d,(xs[i].drop off)[j]? = some d→arr[i*sz+off+j]? = some (arr.getD (i*sz+off+j) undef)∧RdF C nw d (arr.getD (i*sz+off+j) undef)∧d.one=true:=by
    intro j d hd
    rw[List.getElem?_drop]at hd
    have hj:off+j<xs[i].length:=(List.getElem?_eq_some_iff.1 hd).1
    have:=h4 i _ hel
    have hlt:i*sz+(off+j)<arr.size:=Nat.lt_of_lt_of_le (zdr hil (by omega)) h3
    have hg:arr[i*sz+off+j]? = some (arr.getD (i*sz+off+j) undef):=by
     rw[Nat.add_assoc]
     simp[Array.getElem?_eq_getElem hlt]
    exact⟨hg,h6 i (off+j) _ d _ hel hd (by rw[←Nat.add_assoc];exact hg),h5 _ _ _ _ hel hd⟩
   refine Rd.rp _ b _ (fun j=>arr.getD (i*sz+off+j) undef) (fun j d hd=>(hcell j d hd).2.2) (.inr ⟨g,by rw[hat];simp,hi⟩) (fun j d hd=>?_) (fun j d hd=>(hcell j d hd).2.1.lend hm)
   rw[zaz h1];exact(hcell j d hd).1
 | aggd cs =>
  obtain⟨vs,rfl,hl,hv⟩:=hd
  simp only[asB]at h
  cases hc:asBs m cs with
  | none=>simp[hc]at h
  | some xs =>
   simp only[hc,Option.some.injEq]at h
   subst h
   obtain⟨hl',hall⟩:=zll hm cs xs hc
   refine Rd.agg xs vs (by omega) (fun j d c hd hcv=>?_)
   have hj:j<cs.length:=by have:=(List.getElem?_eq_some_iff.1 hd).1;omega
   have hcs:cs[j]? = some cs[j]:=List.getElem?_eq_getElem hj
   exact hall j cs[j] d c hcs hd (hv j cs[j] c hcs hcv)
 | dat n x'=>exact ziP hm (show asB0 m (.dat n x')=some x from h) hd
 | nil=>exact ziP hm (show asB0 m .nil=some x from h) hd
 | own g ver lo len=>exact ziP hm (show asB0 m (.own g ver lo len)=some x from h) hd
 | _=>simp[asB,asB0]at h
theorem ziQ {C:Cf} {m:Mem} (hm:HoldsM C m):∀ (ds:List D) (xs:List V),asBL m ds=some xs →
  xs.length=ds.length∧∀ (j:Nat) (d:D) (x:V) (v:Value),ds[j]? = some d→xs[j]? = some x→RdD C m d v→Rd (C.lent m) C.w x v
 | [],xs,h=>by
  simp only[asBL,Option.some.injEq]at h
  subst h
  simp
 | d :: r,xs,h=>by
  simp only[asBL]at h
  cases h0:asB m d with
  | none=>simp[h0]at h
  | some x0 =>
   cases h1:asBL m r with
   | none=>simp[h0,h1]at h
   | some x1 =>
    simp only[h0,h1,Option.some.injEq]at h
    subst h
    obtain⟨hl,ih⟩:=ziQ hm r x1 h1
    refine⟨by simp[hl],fun j d' x v hd hx hr=>?_⟩
    cases j with
    | zero =>
     simp only[List.getElem?_cons_zero,Option.some.injEq]at hd hx
     subst hd;subst hx
     exact zr8 hm h0 hr
    | succ j =>
     simp only[List.getElem?_cons_succ]at hd hx
     exact ih j d' x v hd hx hr
theorem zmp {m m':Mem} {d:D} (h:∀ g,g∈refs0 d→m'.at g=m.at g):asB0 m' d=asB0 m d:=by
 cases d with
 | own g ver lo len=>simp only[asB0,h g (by simp[refs0])]
 | _=>rfl
theorem ziR {m m':Mem}:∀ {ds:List D},(∀ g,g∈ds.flatMap refs0→m'.at g=m.at g)→asBs m' ds=asBs m ds
 | [],_=>rfl
 | d::r,h=>by
  simp only[asBs]
  rw[zmp (fun g hg=>h g (by simp[hg])),ziR (fun g hg=>h g (by simp[hg]))]
theorem zsv {m m':Mem} {d:D} (h:∀ g,g∈refs m d→m'.at g=m.at g):asB m' d=asB m d:=by
 cases d with
 | ptr g off =>
  have h1:=h g (by simp[refs])
  simp only[asB,h1]
  cases hm:m.at g with
  | cells frz nw cs =>
   simp only
   rw[ziR (fun g' hg'=>h g' (by simp only[refs,hm];exact List.mem_cons_of_mem _ hg'))]
  | _=>rfl
 | rptr g ver i off=>simp only[asB,h g (by simp[refs,refs0])]
 | aggd cs =>
  simp only[asB]
  rw[ziR (fun g' hg'=>h g' (by simpa[refs]using hg'))]
 | own g ver lo len=>exact zmp (fun g hg=>h g (by simpa[refs]using hg))
 | _=>rfl
theorem zbx {m m':Mem}:∀ {ds:List D},(∀ g,g∈ds.flatMap (refs m)→m'.at g=m.at g)→asBL m' ds=asBL m ds
 | [],_=>rfl
 | d::r,h=>by
  simp only[asBL]
  rw[zsv (fun g hg=>h g (by simp[hg])),zbx (fun g hg=>h g (by simp[hg]))]
section
variable {P : Program} {e : Operand → D} {m : Mem} {dst : Option Tmp} {ty : TypeId} {pos : String} {af : Array Edge} {gd : Option (Nat × Bool)} {x y z : Operand} {t : TypeId} {yt : TypeId}
theorem za6 {f:FuncId} (h:Callable P f) (args:Array Value) (w:World):(callFunc f args).run P w = .ok (.enter f args) w:=by
 obtain⟨fn,h1,h2,h3⟩:=h
 have h3' : ¬ fn.name = "runtime.NumGoroutine" := by simpa using h3
 have h2':¬fn.body=none:=by intro h;simp[h]at h2
 simp[callFunc,program,Sem.run,h1,h2',h3']
theorem zjR {f:FuncId} {capV:List V} {o:Oper} {ds:List V} {r:V} {es:List D} {cap:Array Value} (hc:FnF P f ds r) (C:Cf) (m':Mem) (a:Act) (next:Act→World→Prop) (Q:Exit→Act→World→Prop) (hm:HoldsM C m')
  (vs:Array Value) (hl:vs.size=es.length) (hv:∀ (j:Nat) d v,es[j]? = some d→vs[j]? = some v→RdD C m' d v) (cs:List V) (ha:asBL m' es=some cs) (hds:ds=cs++capV)
  (hcap:RdL (C.lent m') C.w capV cap) (hrun:(execOp a.eval o).run P C.w = .ok (.enter f (vs++cap)) C.w)
  (hn:∀ v C',Step C m' C' m'→RdD C' m' (.dat true r) v→next (a.put o.dst v) C'.w):o.wp P a C.w next Q:=by
 obtain⟨_,hc⟩:=hc
 unfold Oper.wp
 rw[hrun]
 show Calls P f (vs++cap) C.w _
 obtain⟨hlen,hall⟩:=ziQ hm es cs ha
 have hsd:∀ b,C.lent m' b→b<C.w.heap.size:=by
  rintro b (hb|⟨g,h1,h2⟩)
  ·exact hm.sdom b hb
  ·exact BoxOK.lt hm h1 h2
 have hr:RdL (C.lent m') C.w ds (vs++cap):=by
  subst hds
  refine⟨by simp[hlen,hl,hcap.1],fun j d c hd hcv=>?_⟩
  by_cases hj:j<cs.length
  ·rw[List.getElem?_append_left hj]at hd
   rw[Array.getElem?_append_left (by omega)]at hcv
   have hes:es[j]? = some (es[j]'(by omega)):=List.getElem?_eq_getElem (by omega)
   exact hall j _ d c hes hd (hv j _ c hes hcv)
  ·rw[List.getElem?_append_right (by omega)]at hd
   rw[Array.getElem?_append_right (by omega)]at hcv
   exact hcap.2 (j-cs.length) d c hd (by rw[show j-cs.length=j-vs.size by omega];exact hcv)
 refine(hc (C.lent m') C.w (vs++cap) hsd hr).mono ?_
 rintro e w' ⟨v,rfl,hb,hrd⟩
 have hg:Grew C.w w':=⟨hb.os,hb.tape,hb.output,hb.size,hb.block⟩
 have hst:=zc9 (newB C.w w') hm hg (fun k hk=>hk)
 exact hn v _ hst (Rd.mono hrd (fun _ h=>.inr h) (fun _ _=>rfl))
theorem zac {f:FuncId} {args:Array Operand} {ats:Array TypeId} {ds:List V} {r:V} (hc:FnF P f ds r) (ha:asBL m (args.toList.map e)=some ds) :
  SStep P ⟨dst,.call { callee := .value (.func f),args:=args,argTypes:=ats },ty,pos,af,gd⟩ e m ((args.toList.map e).flatMap (refs m)) (.dat true r) []:=by
 intro C m' a next Q hag hm hx hn
 have ha':asBL m' (args.toList.map e)=some ds:=(zbx (fun g hg=>hag g (.inl hg))).trans ha
 refine zjR (capV := []) (cap := #[]) hc C m' a next Q hm (args.map a.eval) (by simp) (fun j d v hd hv=>?_) ds ha' (by simp) ⟨rfl,by simp⟩ ?_ hn
 ·simp only[List.getElem?_map,Option.map_eq_some_iff]at hd
  obtain⟨y,hy,rfl⟩:=hd
  simp only[Array.getElem?_map,Option.map_eq_some_iff]at hv
  obtain⟨y',hy',rfl⟩:=hv
  have:y=y':=by
   rw[Array.getElem?_toList]at hy
   rw[hy]at hy'
   injection hy'
  subst this
  exact hx y (by simp only[Op.operands,Call.operands];exact Array.mem_append.2 (.inr (Array.mem_of_getElem? hy')))
 ·have hev:a.eval (.func f) = .func (.func f) #[] #[]:=rfl
  simp only[execOp,resolve,hev,Deferred.ofValue,Sem.run_bind,Sem.run_pure,Result.andThen_ok,invoke,za6 hc.1]
  simp
theorem zaq {f:FuncId} {n:Bool} {cap:List V} {args:Array Operand} {ats:Array TypeId} {ds:List V} {r:V} (hf:e x = .dat n (.fn f cap)) (ha:asBL m (args.toList.map e)=some ds) (hc:FnF P f (ds++cap) r) :
  SStep P ⟨dst,.call { callee := .value x,args:=args,argTypes:=ats },ty,pos,af,gd⟩ e m ((args.toList.map e).flatMap (refs m)) (.dat true r) []:=by
 intro C m' a next Q hag hm hx hn
 have ha':asBL m' (args.toList.map e)=some ds:=(zbx (fun g hg=>hag g (.inl hg))).trans ha
 have hxf:=hx x (by simp[Op.operands,Call.operands])
 rw[hf]at hxf
 generalize hv:a.eval x=v at hxf
 cases hxf with
 | fn _ _ us hl hr =>
  refine zjR (capV:=cap) (cap:=us) hc C m' a next Q hm (args.map a.eval) (by simp) (fun j d v hd hv=>?_) ds ha' rfl ⟨hl,fun j d c h1 h2=>?_⟩ ?_ hn
  ·simp only[List.getElem?_map,Option.map_eq_some_iff]at hd
   obtain⟨y,hy,rfl⟩:=hd
   simp only[Array.getElem?_map,Option.map_eq_some_iff]at hv
   obtain⟨y',hy',rfl⟩:=hv
   have:y=y':=by
    rw[Array.getElem?_toList]at hy
    rw[hy]at hy'
    injection hy'
   subst this
   exact hx y (by simp only[Op.operands,Call.operands];exact Array.mem_append.2 (.inr (Array.mem_of_getElem? hy')))
  ·exact RdF.lend (n:=n) (hr j d c h1 h2) hm
  ·simp only[execOp,resolve,hv,Deferred.ofValue,Sem.run_bind,Sem.run_pure,Result.andThen_ok,invoke,za6 hc.1]
   simp
end
theorem ret1 {P:Program} {s:St} {t:Tmp} {n:Bool} {x r:V} (h:asV s.mem (s.env.at t)=some (n,x)) (hn:n=true∨Flat x) (he:x=r):retQ P [.tmp t] r .ret s :=
 ⟨_,.tmp h hn .nil,he⟩
theorem ret2 {P:Program} {s:St} {t u:Tmp} {n n':Bool} {x y r:V} (h:asV s.mem (s.env.at t)=some (n,x)) (hn:n=true∨Flat x) (h':asV s.mem (s.env.at u)=some (n',y)) (hn':n'=true∨Flat y) (he : .tuple [x,y]=r):retQ P [.tmp t,.tmp u] r .ret s :=
 ⟨_,.tmp h hn (.tmp h' hn' .nil),he⟩
theorem retN {P:Program} {s:St} {res:List ResultVar} {xs:List V} {r:V} (h:RetOK P s res xs) (he:pack xs=r):retQ P res r .ret s:=⟨_,h,he⟩
end Go.Proofs.YtcdhlofhhcgohaaGreat
