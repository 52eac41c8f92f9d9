/- The D-machine, part 9: a region that draws its order comes to what the text's order comes to, where no two operations that no edge orders touch the same slot or box. -/
import Derived.Test.YtcdhlofhhcgohaaGreatw8Call
namespace Go.Proofs.YtcdhlofhhcgohaaGreat
open Go.RowKit
theorem zjS {C:Cf} {m m':Mem} (h:∀ g,m.at g=m'.at g) (d:D) (v:Value) (hd:RdS C m d v):RdS C m' d v:=by
 cases d<;>simp only[RdS,←h]at * <;> exact hd
theorem zb7 {C:Cf} {m m':Mem} (h:∀ g,m.at g=m'.at g):∀ (d:D) (v:Value),RdD C m d v→RdD C m' d v:=RdD.of_S (zjS h)
theorem zbW {C:Cf} {m m':Mem} (h:∀ g,m.at g=m'.at g) (hm:HoldsM C m):HoldsM C m':=by
 refine⟨fun g=>?_,fun g g' b h1 h2=>hm.inj g g' b (by rwa[h]) (by rwa[h]),fun g b h1=>hm.sep g b (by rwa[h]),hm.sdom,hm.ns⟩
 rw[←h]
 exact BoxOK.upd (hm.box g) (fun _ _=>rfl) (fun _ _ _ h=>h) (zjS h) (fun _ h=>h) (fun _ h=>h)
structure SameSt (s s':St):Prop where
 env:∀ t,s.env.at t=s'.env.at t
 mem:∀ g,s.mem.at g=s'.mem.at g
 n:s.n=s'.n
theorem zeG {C:Cf} {s s':St} {a:Act} (h:SameSt s s') (hh:Holds C s a):Holds C s' a :=
 ⟨zbW h.mem hh.mem,hh.defers,hh.size.trans h.n,fun t=>by rw[←h.env];exact zb7 h.mem _ _ (hh.env t)⟩
theorem zm9 {C C':Cf} {m m1 m' m1':Mem} (h:∀ g,m.at g=m1.at g) (h':∀ g,m'.at g=m1'.at g) (x:Ext C m C' m'):Ext C m1 C' m1':=by
 refine⟨x.os,x.tape,x.output,x.size,fun b hb hn=>x.keep b hb (fun g hg hi=>hn g (by rw[←h];exact hg) hi),fun g b h1 h2=>?_,x.sS,x.sN,x.supS,fun b hb=>?_⟩
 ·rcases x.own g b (by rw[h'];exact h1) h2 with q|⟨g0,q1,q2⟩
  ·exact .inl q
  ·exact .inr ⟨g0,by rw[←h];exact q1,q2⟩
 ·rcases x.supN b hb with q|q|⟨g0,q1,q2⟩
  ·exact .inl q
  ·exact .inr (.inl q)
  ·exact .inr (.inr ⟨g0,by rw[←h];exact q1,q2⟩)
theorem zcM {C C':Cf} {m m1 m' m1':Mem} (h:∀ g,m.at g=m1.at g) (h':∀ g,m'.at g=m1'.at g) (x:Step C m C' m'):Step C m1 C' m1' :=
 ⟨zm9 h h' x.ext,zbW h' x.holds,fun d v hd=>zb7 h' d v (x.slot d v (zb7 (fun g=>(h g).symm) d v hd))⟩
theorem zgC {C C':Cf} {m m1 m' m1':Mem} (h:∀ g,m.at g=m1.at g) (h':∀ g,m'.at g=m1'.at g) (x:Ext C m C' m'):Ext C m1 C' m1' :=
 ⟨x.os,x.tape,x.output,x.size,fun b hb hn=>x.keep b hb (fun g hg=>hn g (by rwa[←h])),
  fun g b hg hi=>(x.own g b (by rwa[h']) hi).imp id (fun⟨g0,q1,q2⟩=>⟨g0,by rwa[←h],q2⟩),x.sS,x.sN,x.supS,
  fun b hb=>(x.supN b hb).imp id (Or.imp id (fun⟨g0,q1,q2⟩=>⟨g0,by rwa[←h],q2⟩))⟩
theorem SStep.at {P:Program} {o:Oper} {e e':Operand→D} {m m':Mem} {rd:List Nat} {val:D} {wr:Mem} (h:SStep P o e m rd val wr)
  (he:∀ x,x∈o.op.operands→e' x=e x) (hm:∀ g,g∈rd∨g∈wr.map (·.1)→m'.at g=m.at g):SStep P o e' m' rd val wr :=
 fun C m2 a next Q ha hh hx hn=>h C m2 a next Q (fun g hg=>(ha g hg).trans (hm g hg)) hh (fun x hxm=>by rw[←he x hxm];exact hx x hxm) hn
theorem zsw {s s':St} (x:Operand) (h:∀ t,x = .tmp t→s'.env.at t=s.env.at t):ev s' x=ev s x:=by
 cases x with
 | tmp t=>exact h t rfl
 | _=>rfl
theorem GStep.at {P:Program} {ops:Array Oper} {o:Oper} {s s':St} {rd:List Nat} {val:D} {wr:Mem} (h:GStep P ops o s rd val wr) (ht:∀ t,t∈o.looksAt ops→s'.env.at t=s.env.at t)
  (hm:∀ g,g∈rd∨g∈wr.map (·.1)→s'.mem.at g=s.mem.at g):GStep P ops o s' rd val wr:=by
 have hx:∀ x,x∈o.op.operands→ev s' x=ev s x:=fun x hx=>zsw x (fun t e=>ht t (by
  subst e
  simp only[Oper.looksAt,List.mem_append,List.mem_filterMap]
  exact .inl ⟨.tmp t,by simpa using hx,rfl⟩))
 have hgd:∀ j b,o.guard=some (j,b)→zda s' ops j=zda s ops j:=fun j b hg=>by
  unfold zda
  cases hb:(ops[j]?).bind (·.dst)with
  | none=>rfl
  | some t=>exact ht t (by simp[Oper.looksAt,hg,hb])
 cases h with
 | plain hg hs=>exact .plain hg (hs.at hx hm)
 | @on _ _ _ j b hg hj hs=>exact .on hg ((congrArg (zbH b) (hgd _ _ hg)).trans hj) (hs.at hx hm)
 | @off j b hg hj=>exact .off hg ((congrArg (zbH b) (hgd _ _ hg)).trans hj)
 | @may _ val j b q e' hg hj hn hs =>
  exact .may e' hg ((congrArg (zbH b) (hgd _ _ hg)).trans hj) (fun hc x hxm C m v hv=>hn hc x hxm C m v (by rw[←hx x hxm];exact hv)) (fun hc=>(hs hc).at (fun x hxm=>rfl) hm)
structure Done where
 rd:List Nat
 val:D
 wr:Mem
def upTo (l:List Oper) (f:Nat→Done) (s:St) (p:Nat→Bool):Nat→St
 | 0=>s
 | k+1=>if p k=true then(upTo l f s p k).put ((l[k]?).bind (·.dst)) (f k).val (f k).wr else upTo l f s p k
theorem zfq {s:St} {dst:Option Tmp} {d:D} {wr:Mem} (t:Nat):(s.put dst d wr).env.at t=if dst=some t then d else s.env.at t:=by
 cases dst with
 | none=>simp[St.put]
 | some u =>
  show Env.at ((u,d)::s.env) t=_
  unfold Env.at
  rw[zai]
  by_cases h:u=t<;>simp[h]
theorem zaP {wr m:Mem} (g:Nat):Mem.at (wr++m) g=if g∈wr.map (·.1)then Mem.at wr g else m.at g:=by
 induction wr with
 | nil=>simp
 | cons p r ih =>
  obtain⟨k,b⟩:=p
  unfold Mem.at at *
  rw[List.cons_append,zai,zai,ih]
  by_cases h:k=g
  ·simp[h]
  ·have h':g≠k:=fun e=>h e.symm
   simp only[h,if_false,List.map_cons,List.mem_cons,h',false_or]
theorem put_mem {s:St} {dst:Option Tmp} {d:D} {wr:Mem} (g:Nat):(s.put dst d wr).mem.at g=if g∈wr.map (·.1)then Mem.at wr g else s.mem.at g:=zaP g
section
variable {l : List Oper} {f : Nat → Done} {s : St}
theorem zgD (p:Nat→Bool):∀ k,(upTo l f s p k).n=s.n
 | 0=>rfl
 | k+1=>by
  simp only[upTo]
  split
  ·exact zgD p k
  ·exact zgD p k
theorem zgf {p q:Nat→Bool} {t:Nat}:∀ k,(∀ j,j<k→(l[j]?).bind (·.dst)=some t→p j=q j)→(upTo l f s p k).env.at t=(upTo l f s q k).env.at t
 | 0,_=>rfl
 | k+1,h=>by
  have ih:=zgf k (fun j hj=>h j (by omega))
  simp only[upTo]
  by_cases hd:(l[k]?).bind (·.dst)=some t
  ·have:=h k (by omega) hd
   rw[this]
   split
   ·rw[zfq,zfq,if_pos hd,if_pos hd]
   ·exact ih
  ·have hp:∀ (c:Bool) (u:St),(if c=true then u.put ((l[k]?).bind (·.dst)) (f k).val (f k).wr else u).env.at t=u.env.at t:=by
    intro c u
    split
    ·rw[zfq,if_neg hd]
    ·rfl
   rw[hp,hp,ih]
theorem zgg {p q:Nat→Bool} {g:Nat}:∀ k,(∀ j,j<k→g∈(f j).wr.map (·.1)→p j=q j)→(upTo l f s p k).mem.at g=(upTo l f s q k).mem.at g
 | 0,_=>rfl
 | k+1,h=>by
  have ih:=zgg k (fun j hj=>h j (by omega))
  simp only[upTo]
  by_cases hd:g∈(f k).wr.map (·.1)
  ·have:=h k (by omega) hd
   rw[this]
   split
   ·rw[put_mem,put_mem,if_pos hd,if_pos hd]
   ·exact ih
  ·have hp:∀ (c:Bool) (u:St),(if c=true then u.put ((l[k]?).bind (·.dst)) (f k).val (f k).wr else u).mem.at g=u.mem.at g:=by
    intro c u
    split
    ·rw[put_mem,if_neg hd]
    ·rfl
   rw[hp,hp,ih]
theorem zgE {i:Nat}:∀ k,i≤k→upTo l f s (fun j=>decide (j<i)) k=upTo l f s (fun _=>true) i
 | 0,h=>by
  have:i=0:=by omega
  subst this
  rfl
 | k + 1,h=>by
  by_cases hk:i≤k
  ·simp only[upTo]
   rw[if_neg (by simp;omega)]
   exact zgE k hk
  ·have:i=k+1:=by omega
   subst this
   have aux:∀ m,m≤k+1→upTo l f s (fun j=>decide (j<k+1)) m=upTo l f s (fun _=>true) m:=by
    intro m
    induction m with
    | zero=>intro _;rfl
    | succ m ih =>
     intro hm
     simp only[upTo]
     rw[if_pos (by simp;omega),ih (by omega)]
     simp
   exact aux (k+1) (Nat.le_refl _)
theorem zqB {p:Nat→Bool} {i n:Nat} (hi:i<n) (henv:∀ t,(l[i]?).bind (·.dst)=some t→∀ j,i<j→j<n→(l[j]?).bind (·.dst)=some t→p j=false)
  (hmem:∀ g,g∈(f i).wr.map (·.1)→∀ j,i<j→j<n→g∈(f j).wr.map (·.1)→p j=false) :
  SameSt ((upTo l f s p n).put ((l[i]?).bind (·.dst)) (f i).val (f i).wr) (upTo l f s (fun j=>decide (j=i) || p j) n):=by
 refine⟨fun t=>?_,fun g=>?_,by show(upTo l f s p n).n=_;rw[zgD,zgD]⟩
 ·rw [zfq]
  by_cases hd:(l[i]?).bind (·.dst)=some t
  ·rw [if_pos hd]
   have aux:∀ k,i<k→k≤n→(upTo l f s (fun j=>decide (j=i) || p j) k).env.at t=(f i).val:=by
    intro k
    induction k with
    | zero=>intro h;omega
    | succ k ih =>
     intro h1 h2
     simp only[upTo]
     by_cases hk:k=i
     ·subst hk
      rw[if_pos (by simp),zfq,if_pos hd]
     ·have hik:i<k:=by omega
      split
      ·rename_i hpk
       rw[zfq]
       by_cases hdk:(l[k]?).bind (·.dst)=some t
       ·have:=henv t hd k hik (by omega) hdk
        simp[hk,this]at hpk
       ·rw[if_neg hdk];exact ih hik (by omega)
      ·exact ih hik (by omega)
   exact(aux n hi (Nat.le_refl _)).symm
  ·rw[if_neg hd]
   exact zgf n (fun j _ hj=>by
    have:j≠i:=by rintro rfl;exact hd hj
    simp[this])
 ·rw [put_mem]
  by_cases hd:g∈(f i).wr.map (·.1)
  ·rw [if_pos hd]
   have aux:∀ k,i<k→k≤n→(upTo l f s (fun j=>decide (j=i) || p j) k).mem.at g=Mem.at (f i).wr g:=by
    intro k
    induction k with
    | zero=>intro h;omega
    | succ k ih =>
     intro h1 h2
     simp only[upTo]
     by_cases hk:k=i
     ·subst hk
      rw[if_pos (by simp),put_mem,if_pos hd]
     ·have hik:i<k:=by omega
      split
      ·rename_i hpk
       rw[put_mem]
       by_cases hdk:g∈(f k).wr.map (·.1)
       ·have:=hmem g hd k hik (by omega) hdk
        simp[hk,this]at hpk
       ·rw[if_neg hdk];exact ih hik (by omega)
      ·exact ih hik (by omega)
   exact(aux n hi (Nat.le_refl _)).symm
  ·rw[if_neg hd]
   exact zgg n (fun j _ hj=>by
    have:j≠i:=by rintro rfl;exact hd hj
    simp[this])
end
theorem run_places {P:Program} {ops:Array Oper}:∀ (l:List Oper) (s:St) (tr:List (List Nat×List Nat)) (s':St),DRun P ops l s tr s' →
  ∃ f:Nat→Done,tr.length=l.length∧s'=upTo l f s (fun _=>true) l.length∧∀ (i:Nat) o,l[i]? = some o →
   tr[i]? = some ((f i).rd,(f i).wr.map (·.1))∧dOK s o.dst=true∧GStep P ops o (upTo l f s (fun _=>true) i) (f i).rd (f i).val (f i).wr
 | [],s,tr,s',⟨h1,h2⟩=>⟨fun _=>⟨[],.any,[]⟩,by simp[h1],h2,by simp⟩
 | o :: r,s,tr,s',⟨rd,val,wr,tr',h1,h2,h3,h4⟩=>by
  obtain⟨f,g1,g2,g3⟩:=run_places r _ tr' s' h4
  let F:Nat→Done:=fun i=>match i with|0=>⟨rd,val,wr⟩|i+1=>f i
  have hup:∀ k,upTo (o::r) F s (fun _=>true) (k+1)=upTo r f (s.put o.dst val wr) (fun _=>true) k:=by
   intro k
   induction k with
   | zero=>simp[upTo,F]
   | succ k ih =>
    have e1:upTo (o::r) F s (fun _=>true) (k+1+1)=(upTo (o::r) F s (fun _=>true) (k+1)).put (((o::r)[k+1]?).bind (·.dst)) (F (k+1)).val (F (k+1)).wr:=by
     simp only[upTo,if_true]
    rw[e1,ih]
    simp only[upTo,if_true,List.getElem?_cons_succ,F]
  refine⟨F,by simp[h1,g1],?_,fun i o' hi=>?_⟩
  ·rw[g2,List.length_cons,hup]
  ·subst h1
   cases i with
   | zero =>
    simp only[List.getElem?_cons_zero,Option.some.injEq]at hi
    subst hi
    exact⟨rfl,h2,h3⟩
   | succ i =>
    simp only[List.getElem?_cons_succ]at hi ⊢
    obtain⟨q1,q2,q3⟩:=g3 i o' hi
    refine⟨q1,q2,?_⟩
    rw[hup]
    exact q3
def touch (ops:Array Oper) (o:Oper) (x:List Nat×List Nat) (o':Oper) (x':List Nat×List Nat):Bool :=
 (match o'.dst with|some d=>(o.looksAt ops).contains d || o.dst == some d|none=>false) ||
 (match o.dst with|some d=>(o'.looksAt ops).contains d|none=>false) ||
 x'.2.any (fun g=>x.1.contains g || x.2.contains g) || x.2.any (fun g=>x'.1.contains g)
def bef1 (acc:List Nat) (o:Oper):Nat:=o.after.toList.foldl (fun s e=>if Region.binds .any e then s ||| 2 ^ e.on ||| acc.getD e.on 0 else s) 0
def bef : List Oper→List Nat→List Nat
 | [],acc=>acc
 | o::r,acc=>bef r (acc++[bef1 acc o])
def zjT (ops:Array Oper) (o:Oper) (x:List Nat×List Nat) (b:Nat):List Oper→List (List Nat×List Nat)→Nat→Bool
 | o'::r,x'::y,j=>(!touch ops o x o' x' || b.testBit j) && zjT ops o x b r y (j+1)
 | _,_,_=>true
def zjU (ops:Array Oper) (l:List Oper) (tr:List (List Nat×List Nat)):List Oper→List (List Nat×List Nat)→List Nat→Nat→Bool
 | o::r,x::y,b::c,i=>zjT ops o x b (l.take i) (tr.take i) 0 && zjU ops l tr r y c (i+1)
 | _,_,_,_=>true
def topo (ops:Array Oper) (md:Region.Mode):List Nat→List Nat→Bool
 | _,[]=>true
 | seen,i::r=>(match ops[i]? with|some o=>o.after.toList.all (fun e => !Region.binds md e || seen.contains e.on)|none=>true) && topo ops md (i::seen) r
def chk (l:List Oper) (acc:List (List Nat×List Nat)):Bool :=
 zjU l.toArray l acc.reverse l acc.reverse (bef l []) 0 && topo l.toArray .any [] (List.range l.length) && topo l.toArray .text [] (List.range l.length) &&
  (let q:=Region.linearise .gc l.toArray 0;topo l.toArray .gc [] q && (List.range l.length).all (q.contains ·) && q.all (Nat.blt · l.length))
theorem zjV {ops:Array Oper} {o:Oper} {x:List Nat×List Nat} {b:Nat}:∀ {r:List Oper} {y:List (List Nat×List Nat)} {j:Nat},zjT ops o x b r y j=true →
  ∀ (k:Nat) o' x',r[k]? = some o'→y[k]? = some x'→touch ops o x o' x'=true→b.testBit (j+k)=true
 | [],y,j,_,k,o',x',h1,_,_=>by simp at h1
 | o1::r,[],j,_,k,o',x',_,h2,_=>by simp at h2
 | o1::r,x1::y,j,h,k,o',x',h1,h2,ht=>by
  simp only[zjT,Bool.and_eq_true,Bool.or_eq_true,Bool.not_eq_true']at h
  cases k with
  | zero =>
   simp only[List.getElem?_cons_zero,Option.some.injEq]at h1 h2
   subst h1;subst h2
   rcases h.1 with h|h
   ·rw[h]at ht;cases ht
   ·exact h
  | succ k =>
   have:=zjV h.2 k o' x' (by simpa using h1) (by simpa using h2) ht
   rw[show j+(k+1)=j+1+k by omega]
   exact this
theorem zjW {ops:Array Oper} {l:List Oper} {tr:List (List Nat×List Nat)}:∀ {r:List Oper} {y:List (List Nat×List Nat)} {c:List Nat} {i:Nat},zjU ops l tr r y c i=true →
  ∀ (k:Nat) o x b,r[k]? = some o→y[k]? = some x→c[k]? = some b→zjT ops o x b (l.take (i+k)) (tr.take (i+k)) 0=true
 | [],_,_,_,_,k,o,x,b,h1,_,_=>by simp at h1
 | _::_,[],_,_,_,k,o,x,b,_,h2,_=>by simp at h2
 | _::_,_::_,[],_,_,k,o,x,b,_,_,h3=>by simp at h3
 | o1::r,x1::y,b1::c,i,h,k,o,x,b,h1,h2,h3=>by
  simp only[zjU,Bool.and_eq_true]at h
  cases k with
  | zero =>
   simp only[List.getElem?_cons_zero,Option.some.injEq]at h1 h2 h3
   subst h1;subst h2;subst h3
   exact h.1
  | succ k =>
   have:=zjW h.2 k o x b (by simpa using h1) (by simpa using h2) (by simpa using h3)
   rw[show i+(k+1)=i+1+k by omega]
   exact this
theorem zsx {acc:List Nat} {o:Oper} {j:Nat} (h:(bef1 acc o).testBit j=true):∃ e,e∈o.after.toList∧Region.binds .any e=true∧(j=e.on∨(acc.getD e.on 0).testBit j=true):=by
 unfold bef1 at h
 have aux:∀ (es:List Edge) (s0:Nat),(es.foldl (fun s e=>if Region.binds .any e then s ||| 2 ^ e.on ||| acc.getD e.on 0 else s) s0).testBit j=true →
   s0.testBit j=true∨∃ e,e∈es∧Region.binds .any e=true∧(j=e.on∨(acc.getD e.on 0).testBit j=true):=by
  intro es
  induction es with
  | nil=>intro s0 h;exact .inl h
  | cons e es ih =>
   intro s0 h
   simp only[List.foldl_cons]at h
   rcases ih _ h with h1|⟨e',h1,h2⟩
   ·split at h1
    ·rename_i hb
     simp only[Nat.testBit_or,Bool.or_eq_true]at h1
     rcases h1 with(h1|h1)|h1
     ·exact .inl h1
     ·rw[Nat.testBit_two_pow]at h1
      exact .inr ⟨e,List.mem_cons_self ..,hb,.inl (by simpa[eq_comm]using h1)⟩
     ·exact .inr ⟨e,List.mem_cons_self ..,hb,.inr h1⟩
    ·exact .inl h1
   ·exact .inr ⟨e',List.mem_cons_of_mem _ h1,h2⟩
 rcases aux _ _ h with h|h
 ·simp at h
 ·exact h
theorem zr9 : ∀ (l:List Oper) (acc:List Nat) (pre:List Oper),acc.length=pre.length →
  (∀ (i:Nat) b j,acc[i]? = some b→b.testBit j=true→∃ o e,pre[i]? = some o∧e∈o.after.toList∧Region.binds .any e=true∧(j=e.on∨(acc.getD e.on 0).testBit j=true)) →
  (bef l acc).length=(pre++l).length∧∀ (i:Nat) b j,(bef l acc)[i]? = some b→b.testBit j=true →
   ∃ o e,(pre++l)[i]? = some o∧e∈o.after.toList∧Region.binds .any e=true∧(j=e.on∨((bef l acc).getD e.on 0).testBit j=true)
 | [],acc,pre,hl,h=>⟨by simp[bef,hl],by simpa[bef]using h⟩
 | o :: r,acc,pre,hl,h=>by
  have grow:∀ (k j:Nat),(acc.getD k 0).testBit j=true→((acc++[bef1 acc o]).getD k 0).testBit j=true:=by
   intro k j hk
   rw[List.getD_eq_getElem?_getD]at hk ⊢
   cases hx:acc[k]? with
   | none=>rw[hx]at hk;simp at hk
   | some b =>
    rw[hx]at hk
    rw[List.getElem?_append_left (List.getElem?_eq_some_iff.1 hx).1,hx]
    exact hk
  have:=zr9 r (acc++[bef1 acc o]) (pre++[o]) (by simp[hl]) (fun i b j hb hj=>by
   by_cases hi:i<acc.length
   ·rw[List.getElem?_append_left hi]at hb
    obtain⟨o',e,q1,q2,q3,q4⟩:=h i b j hb hj
    refine⟨o',e,by rw[List.getElem?_append_left (by omega)];exact q1,q2,q3,q4.imp id (grow _ _)⟩
   ·have hi':i=acc.length:=by
     have:=(List.getElem?_eq_some_iff.1 hb).1
     simp at this;omega
    subst hi'
    rw[List.getElem?_append_right (Nat.le_refl _),Nat.sub_self]at hb
    simp only[List.getElem?_cons_zero,Option.some.injEq]at hb
    subst hb
    obtain⟨e,q2,q3,q4⟩:=zsx hj
    exact⟨o,e,by rw[hl,List.getElem?_append_right (Nat.le_refl _),Nat.sub_self];rfl,q2,q3,q4.imp id (grow _ _)⟩)
  simpa[bef]using this
theorem zon {ops:Array Oper} {md:Region.Mode} {L:Nat→Bool}:∀ (q seen:List Nat),topo ops md seen q=true→(∀ i,i∈seen→L i=true)→(∃ i,i∈q∧L i=false) →
  ∃ i,i∈q∧L i=false∧∀ o,ops[i]? = some o→∀ e,e∈o.after.toList→Region.binds md e=true→L e.on=true
 | [],_,_,_,⟨i,h,_⟩=>by simp at h
 | i::r,seen,h,hs,hex=>by
  simp only[topo,Bool.and_eq_true]at h
  cases hi:L i with
  | false =>
   refine⟨i,List.mem_cons_self ..,hi,fun o ho e he hb=>?_⟩
   have h1:=h.1
   rw[ho]at h1
   simp only[List.all_eq_true]at h1
   have:=h1 e he
   rw[hb]at this
   simp only[Bool.not_true,Bool.false_or,List.contains_iff_mem]at this
   exact hs _ this
  | true =>
   obtain⟨k,hk,hkl⟩:=hex
   have hkr:k∈r:=by
    rcases List.mem_cons.1 hk with rfl|hk
    ·rw[hi]at hkl;cases hkl
    ·exact hk
   obtain⟨k',q1,q2,q3⟩:=zon r (i::seen) h.2 (fun j hj=>by
    rcases List.mem_cons.1 hj with rfl|hj
    ·exact hi
    ·exact hs j hj) ⟨k,hkr,hkl⟩
   exact⟨k',List.mem_cons_of_mem _ q1,q2,q3⟩
theorem zoo {md:Region.Mode} {e:Edge} (h:Region.binds .any e=true):Region.binds md e=true:=by
 unfold Region.binds at *
 split at h<;>simp_all
theorem zgF {ops:Array Oper} {o o':Oper} {x x':List Nat×List Nat} {d:Tmp} (hd:o'.dst=some d) (h:d∈o.looksAt ops∨o.dst=some d):touch ops o x o' x'=true:=by
 unfold touch
 rw[hd]
 rcases h with h|h
 ·simp[h]
 ·simp[h]
theorem touch_dst' {ops:Array Oper} {o o':Oper} {x x':List Nat×List Nat} {d:Tmp} (hd:o.dst=some d) (h:d∈o'.looksAt ops):touch ops o x o' x'=true:=by
 unfold touch
 rw[hd]
 simp[h]
theorem zgh {ops:Array Oper} {o o':Oper} {x x':List Nat×List Nat} {g:Nat} (hg:g∈x'.2) (h:g∈x.1∨g∈x.2):touch ops o x o' x'=true:=by
 unfold touch
 have:x'.2.any (fun g=>x.1.contains g || x.2.contains g)=true:=by
  rw[List.any_eq_true]
  exact⟨g,hg,by rcases h with h|h<;>simp[h]⟩
 rw[this]
 simp
theorem touch_wr' {ops:Array Oper} {o o':Oper} {x x':List Nat×List Nat} {g:Nat} (hg:g∈x.2) (h:g∈x'.1):touch ops o x o' x'=true:=by
 unfold touch
 have:x.2.any (fun g=>x'.1.contains g)=true:=by
  rw[List.any_eq_true]
  exact⟨g,hg,by simp[h]⟩
 rw[this]
 simp
section
variable {P : Program} {Q : Exit → Act → World → Prop} {l : List Oper} {f : Nat → Done} {s : St} {tr : List (List Nat × List Nat)} {C0 : Cf}
theorem zna (md:Region.Mode)
  (hf:∀ (i:Nat) o,l[i]? = some o→tr[i]? = some ((f i).rd,(f i).wr.map (·.1))∧dOK s o.dst=true∧GStep P l.toArray o (upTo l f s (fun _=>true) i) (f i).rd (f i).val (f i).wr)
  (hc:zjU l.toArray l tr l tr (bef l []) 0=true) (q:List Nat) (ht:topo l.toArray md [] q=true) (hq:∀ i,i<l.length→i∈q) (hqn:∀ i,i∈q→i<l.length)
  (hQ:∀ C' a',Holds C' (upTo l f s (fun _=>true) l.length) a'→Step C0 s.mem C' (upTo l f s (fun _=>true) l.length).mem→Q .normal a' C'.w) :
  ∀ (fuel:Nat) (L:Array Bool) (C:Cf) (a:Act),L.size=l.length→(L.toList.countP (fun b => !b))≤fuel →
   (∀ (i:Nat),L.getD i false=true→∀ b j,(bef l [])[i]? = some b→b.testBit j=true→L.getD j false=true) →
   Holds C (upTo l f s (fun i=>L.getD i false) l.length) a→Step C0 s.mem C (upTo l f s (fun i=>L.getD i false) l.length).mem→wpAny P md l.toArray Q fuel L a C.w:=by
 obtain⟨hbl,hbs⟩:=zr9 l [] [] rfl (by simp)
 simp only[List.nil_append]at hbl hbs
 have hready:∀ (L:Array Bool) (i:Nat),i∈Region.ready md l.toArray L↔i<l.length∧L.getD i true=false∧∀ o,l[i]? = some o→∀ e,e∈o.after.toList→Region.binds md e=true→L.getD e.on false=true:=by
  intro L i
  simp only[Region.ready,List.size_toArray,List.mem_filter,List.mem_range,Bool.and_eq_true,Bool.not_eq_true']
  constructor
  ·rintro⟨h1,h2,h3⟩
   refine⟨h1,h2,fun o ho e he hb=>?_⟩
   have ho':l.toArray[i]? = some o:=by simpa using ho
   rw[ho']at h3
   simp only[Option.map_some,Option.getD_some,Array.all_eq_true']at h3
   have:=h3 e (by simpa using he)
   rw[hb]at this
   simpa using this
  ·rintro⟨h1,h2,h3⟩
   refine⟨h1,h2,?_⟩
   have ho:l[i]? = some l[i]:=List.getElem?_eq_getElem h1
   have ho':l.toArray[i]? = some l[i]:=by simp[ho]
   rw[ho']
   simp only[Option.map_some,Option.getD_some,Array.all_eq_true']
   intro e he
   cases hb:Region.binds md e with
   | false=>rfl
   | true=>simpa using h3 l[i] ho e (by simpa using he) hb
 have hgd:∀ (L:Array Bool) (i:Nat),i<L.size→L.getD i true=L.getD i false:=fun L i hi=>by simp[hi]
 have hall:∀ (L:Array Bool),L.size=l.length→Region.ready md l.toArray L=[]→∀ i,i<l.length→L.getD i false=true:=by
  intro L hL hr i hi
  rcases Bool.eq_false_or_eq_true (L.getD i false)with h|h
  ·exact h
  ·obtain⟨k,k1,k2,k3⟩:=zon (L:=fun i=>L.getD i false) q [] ht (by simp) ⟨i,hq i hi,h⟩
   have hk:=hqn k k1
   have:k∈Region.ready md l.toArray L:=(hready L k).2 ⟨hk,by rw[hgd L k (by omega)];exact k2,fun o ho e he hb=>k3 o (by simpa using ho) e he hb⟩
   rw[hr]at this
   cases this
 have hsame:∀ (L:Array Bool),(∀ i,i<l.length→L.getD i false=true)→SameSt (upTo l f s (fun i=>L.getD i false) l.length) (upTo l f s (fun _=>true) l.length) :=
  fun L h=>⟨fun t=>zgf _ (fun j hj _=>h j hj),fun g=>zgg _ (fun j hj _=>h j hj),by rw[zgD,zgD]⟩
 have hfin:∀ (L:Array Bool) (C:Cf) (a:Act),L.size=l.length→Region.ready md l.toArray L=[]→Holds C (upTo l f s (fun i=>L.getD i false) l.length) a→Step C0 s.mem C (upTo l f s (fun i=>L.getD i false) l.length).mem→Q .normal a C.w:=by
  intro L C a hL hr hh hx
  have hs:=hsame L (hall L hL hr)
  exact hQ C a (zeG hs hh) (zcM (fun _=>rfl) hs.mem hx)
 intro fuel
 induction fuel with
 | zero =>
  intro L C a hL hcnt _ hh hx
  have h0:∀ i,i<l.length→L.getD i true=true:=by
   intro i hi
   have:=List.countP_eq_zero.1 (Nat.le_zero.1 hcnt)
   have hm:L[i]'(by omega)∈L.toList:=by simp
   have:=this _ hm
   simp only[Bool.not_eq_true,Bool.not_eq_false']at this
   simp[show i<L.size by omega,this]
  have hr:Region.ready md l.toArray L=[]:=by
   rw[List.eq_nil_iff_forall_not_mem]
   intro i hi
   obtain⟨q1,q2,_⟩:=(hready L i).1 hi
   rw[h0 i q1]at q2
   cases q2
  exact⟨hr,hfin L C a hL hr hh hx⟩
 | succ fuel ih =>
  intro L C a hL hcnt hdown hh hx
  refine⟨fun hr=>hfin L C a hL hr hh hx,fun i hi=>?_⟩
  obtain⟨hil,hiL,hie⟩:=(hready L i).1 hi
  have ho:l[i]? = some l[i]:=List.getElem?_eq_getElem hil
  obtain⟨htr,hdok,hg⟩:=hf i l[i] ho
  have hiL':L.getD i false=false:=by rw[←hgd L i (by omega)];exact hiL
  -- what i hangs on is listed
  have hpre:∀ b j,(bef l [])[i]? = some b→b.testBit j=true→L.getD j false=true:=by
   intro b j hb hj
   obtain⟨o',e,q1,q2,q3,q4⟩:=hbs i b j hb hj
   rw[ho]at q1
   injection q1 with q1
   subst q1
   have he:=hie l[i] ho e q2 (zoo q3)
   rcases q4 with rfl|q4
   ·exact he
   ·have hlt:e.on<(bef l []).length:=by
     rcases Nat.lt_or_ge e.on (bef l []).length with h|h
     ·exact h
     ·rw[List.getD_eq_getElem?_getD,List.getElem?_eq_none h]at q4;simp at q4
    have hbe:(bef l [])[e.on]? = some ((bef l []).getD e.on 0):=by
     rw[List.getD_eq_getElem?_getD,List.getElem?_eq_getElem hlt];rfl
    exact hdown e.on he _ j hbe q4
  have hbi:∀ k,k<l.length→∃ b,(bef l [])[k]? = some b:=fun k hk=>⟨_,List.getElem?_eq_getElem (by rw[hbl];exact hk)⟩
  -- two that touch each other are ordered
  have hord:∀ j k,j<k→k<l.length→∀ oj ok,l[j]? = some oj→l[k]? = some ok→touch l.toArray ok ((f k).rd,(f k).wr.map (·.1)) oj ((f j).rd,(f j).wr.map (·.1))=true →
    ∀ b,(bef l [])[k]? = some b→b.testBit j=true:=by
   intro j k hjk hk oj ok hj hko htc b hb
   have h1:=zjW hc k ok _ b hko (hf k ok hko).1 hb
   have:=zjV h1 j oj ((f j).rd,(f j).wr.map (·.1)) (by rw[Nat.zero_add,List.getElem?_take,if_pos hjk];exact hj) (by rw[Nat.zero_add,List.getElem?_take,if_pos hjk];exact(hf j oj hj).1) htc
   simpa using this
  -- a writer of what i looks at is listed just if it is ahead of i
  have hlist:∀ j oj,j<l.length→l[j]? = some oj→j≠i→(touch l.toArray l[i] ((f i).rd,(f i).wr.map (·.1)) oj ((f j).rd,(f j).wr.map (·.1))=true∧touch l.toArray oj ((f j).rd,(f j).wr.map (·.1)) l[i] ((f i).rd,(f i).wr.map (·.1))=true) →
    L.getD j false=decide (j<i):=by
   intro j oj hj hoj hne htc
   rcases Nat.lt_or_gt_of_ne hne with h|h
   ·obtain⟨b,hb⟩:=hbi i hil
    rw[hpre b j hb (hord j i h hil oj l[i] hoj ho htc.1 b hb)]
    simp[h]
   ·obtain ⟨b,hb⟩:=hbi j hj
    have hbit:=hord i j h hj l[i] oj ho hoj htc.2 b hb
    have:L.getD j false=false:=by
     rcases Bool.eq_false_or_eq_true (L.getD j false)with hl'|hl'
     ·rw[hdown j hl' b i hb hbit]at hiL'
      cases hiL'
     ·exact hl'
    rw[this]
    simp;omega
  have hdstof:∀ j t,(l[j]?).bind (·.dst)=some t→∃ oj,l[j]? = some oj∧oj.dst=some t∧j<l.length:=by
   intro j t h
   cases hj:l[j]? with
   | none=>rw[hj]at h;cases h
   | some oj=>rw[hj]at h;exact⟨oj,rfl,h,(List.getElem?_eq_some_iff.1 hj).1⟩
  have hgn:GStep P l.toArray l[i] (upTo l f s (fun i=>L.getD i false) l.length) (f i).rd (f i).val (f i).wr:=by
   refine hg.at (fun t ht'=>?_) (fun g hgm=>?_)
   ·rw[←zgE l.length (Nat.le_of_lt hil)]
    refine zgf _ (fun j hj hd=>?_)
    obtain⟨oj,hoj,hdj,_⟩:=hdstof j t hd
    by_cases hne:j=i
    ·subst hne
     rw[hiL'];simp
    ·exact hlist j oj hj hoj hne ⟨zgF hdj (.inl ht'),touch_dst' hdj ht'⟩
   ·rw[←zgE l.length (Nat.le_of_lt hil)]
    refine zgg _ (fun j hj hd=>?_)
    have hoj:l[j]? = some l[j]:=List.getElem?_eq_getElem hj
    by_cases hne:j=i
    ·subst hne
     rw[hiL'];simp
    ·refine hlist j l[j] hj hoj hne ⟨zgh (g:=g) hd hgm,?_⟩
     rcases hgm with h|h
     ·exact touch_wr' (g:=g) hd h
     ·exact zgh (g:=g) h (.inr hd)
  have hsz:(L.setIfInBounds i true).size=l.length:=by simpa using hL
  have hget:∀ j,(L.setIfInBounds i true).getD j false=(decide (j=i) || L.getD j false):=by
   intro j
   by_cases hj:j=i
   ·subst hj
    simp[show j<L.size by omega]
   ·simp[Ne.symm hj,hj]
  have hadd:SameSt ((upTo l f s (fun i=>L.getD i false) l.length).put ((l[i]?).bind (·.dst)) (f i).val (f i).wr) (upTo l f s (fun j=>(L.setIfInBounds i true).getD j false) l.length):=by
   have e:(fun j=>(L.setIfInBounds i true).getD j false)=fun j=>decide (j=i) || L.getD j false:=funext hget
   rw[e]
   refine zqB hil (fun t hd j hij hj hdj=>?_) (fun g hg' j hij hj hgj=>?_)
   ·obtain⟨oj,hoj,hdj',_⟩:=hdstof j t hdj
    have hdi:l[i].dst=some t:=by rw[ho]at hd;exact hd
    rw[hlist j oj hj hoj (by omega) ⟨zgF hdj' (.inr hdi),zgF hdi (.inr hdj')⟩]
    simp;omega
   ·have hoj:l[j]? = some l[j]:=List.getElem?_eq_getElem hj
    rw[hlist j l[j] hj hoj (by omega) ⟨zgh (g:=g) hgj (.inr hg'),zgh (g:=g) hg' (.inr hgj)⟩]
    simp;omega
  have hbind:(l[i]?).bind (·.dst)=l[i].dst:=by rw[ho];rfl
  rw[hbind]at hadd
  have hcnt':((L.setIfInBounds i true).toList.countP (fun b => !b))≤fuel:=by
   have hLl:i<L.toList.length:=by simpa[hL]using hil
   have hdec:(L.toList.set i true).countP (fun b => !b)+1=L.toList.countP (fun b => !b):=by
    have hx:L.toList[i]=false:=by
     have:L.getD i false=L[i]'(by omega):=by simp[show i<L.size by omega]
     rw[this]at hiL'
     simpa using hiL'
    have hpos:0<L.toList.countP (fun b => !b):=List.countP_pos_iff.2 ⟨false,hx▸List.getElem_mem hLl,rfl⟩
    rw[List.countP_set hLl]
    rw[hx]
    simp only[Bool.not_false,Bool.not_true,if_true,Bool.false_eq_true,if_false]
    omega
   have:(L.setIfInBounds i true).toList=L.toList.set i true:=by simp
   rw[this]
   omega
  have hdown':∀ (k:Nat),(L.setIfInBounds i true).getD k false=true→∀ b j,(bef l [])[k]? = some b→b.testBit j=true→(L.setIfInBounds i true).getD j false=true:=by
   intro k hk b j hb hj
   rw[hget]at hk ⊢
   by_cases hki:k=i
   ·subst hki
    rw[hpre b j hb hj];simp
   ·simp only[hki,decide_false,Bool.false_or]at hk
    rw[hdown k hk b j hb hj];simp
  show wpOp P l.toArray Q i (wpAny P md l.toArray Q fuel (L.setIfInBounds i true)) a C.w
  have ho':l.toArray[i]? = some l[i]:=by simp[ho]
  have hstep:=ziN (Q:=Q) (next:=wpAny P md l.toArray Q fuel (L.setIfInBounds i true)) hgn (by
   have:dOK (upTo l f s (fun i=>L.getD i false) l.length) l[i].dst=dOK s l[i].dst:=by
    unfold dOK
    cases l[i].dst<;>simp[zgD]
   rw[this];exact hdok) hh (fun C' a' h' x'=>ih _ C' a' hsz hcnt' hdown' (zeG hadd h') (zcM (fun _=>rfl) hadd.mem (hx.trans x')))
  unfold wpOp
  rw[ho']
  show if Region.wanted l[i] (yielded l.toArray a.tmps)=true then _ else _
  split
  ·rename_i hw;rw[if_pos hw]at hstep;exact .inl hstep
  ·rename_i hw;rw[if_neg hw]at hstep;exact hstep
theorem zop {P:Program} {Q:Exit→St→Prop} {s:St} {id:Nat} {l:List Oper} (h:DOps P l.toArray l s [] (fun acc s'=>chk l acc=true∧Q .normal s')) {C:Cf} {a:Act} (hh:Holds C s a) :
  (Code.region id l.toArray true).wp P (fun e a' w'=>∃ C' s',C'.w=w'∧Q e s'∧Holds C' s' a'∧Step C s.mem C' s'.mem) a C.w:=by
 obtain⟨tr,s',hr,hc,hq⟩:=h
 rw[List.append_nil]at hc
 unfold chk at hc
 rw[List.reverse_reverse]at hc
 simp only[Bool.and_eq_true]at hc
 obtain⟨⟨⟨c1,c2⟩,c3⟩,⟨c4,c5⟩,c6⟩:=hc
 obtain⟨f,g1,rfl,g3⟩:=run_places l s tr s' hr
 have hd:∀ n x v,RdF C n x v→RdF { C with w:=C.w.drew } n x v:=fun n x v h=>Rd.mono h (fun _ h=>h) (fun _ _=>rfl)
 have hs:∀ d v,RdS C s.mem d v→RdS { C with w:=C.w.drew } s.mem d v:=by
  intro d v h
  cases d with
  | dat n x=>exact hd n x v h
  | _=>exact h
 have hdrew:Holds { C with w:=C.w.drew } s a:=by
  exact⟨⟨fun g=>BoxOK.upd (hh.mem.box g) (fun _ _=>rfl) hd hs (fun _ h=>h) (fun _ h=>h),hh.mem.inj,hh.mem.sep,hh.mem.sdom,hh.mem.ns⟩,hh.defers,hh.size,fun t=>RdD.of_S hs _ _ (hh.env t)⟩
 have hx0:Step C s.mem { C with w:=C.w.drew } s.mem:=⟨⟨rfl,rfl,rfl,Nat.le_refl _,fun _ _ _=>rfl,fun g b h1 h2=>.inr ⟨g,h1,h2⟩,fun _ h=>h,fun _ h=>h,fun _ h=>.inl h,fun _ h=>.inl h⟩,hdrew.mem,RdD.of_S hs⟩
 have h0:∀ p:Nat→Bool,(∀ j,p j=false)→SameSt s (upTo l f s p l.length):=by
  intro p hp
  have:∀ k,upTo l f s p k=s:=by
   intro k
   induction k with
   | zero=>rfl
   | succ k ih=>simp only[upTo,hp,Bool.false_eq_true,if_false,ih]
  rw[this]
  exact⟨fun _=>rfl,fun _=>rfl,rfl⟩
 have hgo:∀ (md:Region.Mode) (q:List Nat),topo l.toArray md [] q=true→(∀ i,i<l.length→i∈q)→(∀ i,i∈q→i<l.length)→∀ t,
   wpOps P l.toArray (fun e a' w'=>∃ C' s',C'.w=w'∧Q e s'∧Holds C' s' a'∧Step C s.mem C' s'.mem) (Region.linearise md l.toArray t) a C.w.drew:=by
  intro md q t1 t2 t3 t
  have hrep:∀ j,(Array.replicate l.length false).getD j false=false:=fun j=>by
   rw[Array.getD_eq_getD_getElem?,Array.getElem?_replicate]
   split<;>rfl
  have:=zna (C0:=C) (Q:=fun e a' w'=>∃ C' s',C'.w=w'∧Q e s'∧Holds C' s' a'∧Step C s.mem C' s'.mem) md g3 c1 q t1 t2 t3 (fun C' a' h' x'=>⟨C',_,rfl,hq,h',x'⟩) l.length
   (Array.replicate l.length false) { C with w:=C.w.drew } a (by simp) (by simp[List.countP_replicate]) (fun i hi=>by rw[hrep]at hi;cases hi)
   (zeG (h0 _ hrep) hdrew) (zcM (fun _=>rfl) (h0 _ hrep).mem hx0)
  have h2:=wpAny_sound l.length t _ a _ this
  have e:Region.linearise md l.toArray t=Region.linearise.go md l.toArray l.length t (Array.replicate l.length false) []:=by
   unfold Region.linearise
   simp
  rw[e]
  exact h2
 refine wp_region_draw fun t=>?_
 show wpOps P l.toArray _ (Region.schedule (P.follows .mixedOrders) l.toArray t) a C.w.drew
 unfold Region.schedule
 split
 ·exact hgo .any (List.range l.length) c2 (fun i hi=>List.mem_range.2 hi) (fun i hi=>List.mem_range.1 hi) t
 ·split
  ·exact hgo .text (List.range l.length) c3 (fun i hi=>List.mem_range.2 hi) (fun i hi=>List.mem_range.1 hi) _
  ·refine hgo .gc _ c4 (fun i hi=>?_) (fun i hi=>?_) _
   ·rw[List.all_eq_true]at c5
    simpa using c5 i (List.mem_range.2 hi)
   ·rw[List.all_eq_true]at c6
    have:=c6 i hi
    simpa[Nat.blt_eq]using this
theorem zsy {P:Program} {Q:Exit→St→Prop} {s:St} {id:Nat} {l:List Oper} (h:DOps P l.toArray l s [] (fun acc s'=>chk l acc=true∧Q .normal s')):DW P (.region id l.toArray true) Q s:=fun _C _a hh =>
 Code.wp_mono (fun _ _ _ ⟨C2,s2,e2,q2,h2,x2⟩=>⟨C2,s2,e2,q2,h2,x2.ext⟩) (zop h hh)
end
end Go.Proofs.YtcdhlofhhcgohaaGreat
