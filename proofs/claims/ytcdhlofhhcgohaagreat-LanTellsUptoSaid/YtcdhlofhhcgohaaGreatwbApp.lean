/- append onto an own row: the row may move to a new block. -/
import Derived.ArgAppend
import Derived.Maps.AppendAt
import Derived.Test.YtcdhlofhhcgohaaGreatwbWk
namespace Go.Proofs.YtcdhlofhhcgohaaGreat
open Go.RowKit
theorem Step.bump {C:Cf} {m:Mem} {g ver sz:Nat} {nw:Bool} {xs:List (List V)} (hm:HoldsM C m) (hg:m.at g = .row ver false nw sz xs) {nw':Bool}
  (hnw:(nw'=nw∨nw'=false∨∀ e∈xs,∀ d∈e,Flat d)):Step C m C ((g,.row (ver+1) false nw' sz xs)::m):=by
 have hgo:m.at g ≠ .gone:=by rw[hg];simp
 have hd:∀ n x v,RdF C n x v→RdF C n x v:=fun _ _ _ h=>h
 have hs:∀ d v,RdS C m d v→RdS C ((g,.row (ver+1) false nw' sz xs)::m) d v:=by
  refine RdS.upd g (fun g' h _=>Mem.at_cons_other _ _ (Ne.symm h)) (fun _ _ _=>rfl) (fun _ _ _ _ _=>rfl) hd ?_ ?_ ?_ ?_
  ·rintro v lo len x ⟨ver',_,_,_,_,hat,hle,ha,_⟩
   rw[hg]at hat
   injection hat with e1
   subst e1
   exact⟨ver+1,false,nw',sz,xs,Mem.at_cons_same _ _ _,by omega,ha,fun e=>by omega⟩
  ·rintro off v ⟨_,_,_,_,hat,_⟩;rw[hg]at hat;cases hat
  ·rintro v i off x ⟨ver',_,_,_,_,hat,hle,ha,_⟩
   rw[hg]at hat
   injection hat with e1
   subst e1
   exact⟨ver+1,false,nw',sz,xs,Mem.at_cons_same _ _ _,by omega,ha,fun e=>by omega⟩
  ·rintro v ⟨_,_,_,_,hat,_⟩;rw[hg]at hat;cases hat
 have hmut:∀ g',(Mem.at ((g,.row (ver+1) false nw' sz xs)::m) g').mut=(m.at g').mut:=fun g'=>by
  by_cases e:g'=g
  ·subst e;rw[Mem.at_cons_same,hg];rfl
  ·rw[Mem.at_cons_other _ _ (Ne.symm e)]
 have hgn:∀ g',Mem.at ((g,.row (ver+1) false nw' sz xs)::m) g' ≠ .gone→m.at g' ≠ .gone:=fun g' h=>by
  by_cases e:g'=g
  ·subst e;exact hgo
  ·rwa[Mem.at_cons_other _ _ (Ne.symm e)]at h
 refine⟨⟨rfl,rfl,rfl,Nat.le_refl _,fun _ _ _=>rfl,fun g' k h1 h2=>.inr ⟨g',by rw[←hmut g'];exact h1,h2⟩,fun _ h=>h,fun _ h=>h,fun _ h=>.inl h,fun _ h=>.inl h⟩,⟨fun g'=>?_,?_,?_,hm.sdom,hm.ns⟩,RdD.of_S hs⟩
 ·by_cases h:g'=g
  ·subst h
   rw[Mem.at_cons_same]
   have:=hm.box g'
   rw[hg]at this
   cases hi:C.ι g' with
   | none=>rw[hi]at this;exact this
   | some b =>
    rw[hi]at this
    obtain⟨arr,T,fz,h1,h2,h3,h4,h5,h6,h7⟩:=this
    refine⟨arr,T,fz,h1,h2,h3,h4,h5,fun i j e d c q1 q2 q3=>?_,fun h=>by cases h⟩
    have hr:=h6 i j e d c q1 q2 q3
    rcases hnw with rfl|rfl|hf
    ·exact hr
    ·exact hr.weak hm
    ·exact RdF.flat hr (hf e (List.mem_of_getElem? q1) d (List.mem_of_getElem? q2))
  ·rw[Mem.at_cons_other _ _ (Ne.symm h)]
   exact BoxOK.upd (hm.box g') (fun _ _=>rfl) hd hs (fun _ h=>h) (fun _ h=>h)
 ·intro g1 g2 k h1 h2 i1 i2
  exact hm.inj g1 g2 k (hgn _ h1) (hgn _ h2) i1 i2
 ·intro g' k h1 h2 h3
  exact hm.sep g' k (by rw[←hmut g'];exact h1) h2 h3
theorem Step.move {C:Cf} {m:Mem} {g ver sz b':Nat} {nw:Bool} {xs:List (List V)} {w:World} {bx:Box} (hm:HoldsM C m) (hg:m.at g = .row ver false nw sz xs) (hw:Grew C.w w) (hb':C.w.heap.size≤b')
  (hbm:∃ nw' sz' xs',bx = .row (ver+1) false nw' sz' xs')
  (hbx:(∀ n x v,RdF C n x v→RdF (C.set g (some b') w) n x v)→BoxOK (C.set g (some b') w) ((g,bx)::m) (some b') bx):Step C m (C.set g (some b') w) ((g,bx)::m):=by
 obtain⟨nw',sz',xs',rfl⟩:=hbm
 have hgo:m.at g ≠ .gone:=by rw[hg];simp
 have hmg:(m.at g).mut=true:=by rw[hg];rfl
 have hkS:∀ k,C.S k→w.heap[k]? = C.w.heap[k]? := fun k hks=>hw.block k (hm.sdom k hks)
 have hd:∀ n x v,RdF C n x v→RdF (C.set g (some b') w) n x v:=fun n x v h=>by
  cases n
  ·exact Rd.mono h (fun _ h=>h) hkS
  ·exact Rd.mono h (fun _ h=>h) (fun k h=>hkS k (hm.ns k h))
 have hkg:∀ g' k,g'≠g→m.at g' ≠ .gone→C.ι g'=some k→w.heap[k]? = C.w.heap[k]? := fun g' k _ h1 h2=>hw.block k (BoxOK.lt hm h1 h2)
 have hs:∀ d v,RdS C m d v→RdS (C.set g (some b') w) ((g,.row (ver+1) false nw' sz' xs')::m) d v:=by
  refine RdS.upd g (fun g' h _=>Mem.at_cons_other _ _ (Ne.symm h)) (fun g' h _=>Cf.set_other C _ _ h) hkg hd ?_ ?_ ?_ ?_
  ·rintro v lo len x ⟨ver',_,_,_,_,hat,hle,ha,_⟩
   rw[hg]at hat
   injection hat with e1
   subst e1
   exact⟨ver+1,false,nw',sz',xs',Mem.at_cons_same _ _ _,by omega,ha,fun e=>by omega⟩
  ·rintro off v ⟨_,_,_,_,hat,_⟩;rw[hg]at hat;cases hat
  ·rintro v i off x ⟨ver',_,_,_,_,hat,hle,ha,_⟩
   rw[hg]at hat
   injection hat with e1
   subst e1
   exact⟨ver+1,false,nw',sz',xs',Mem.at_cons_same _ _ _,by omega,ha,fun e=>by omega⟩
  ·rintro v ⟨_,_,_,_,hat,_⟩;rw[hg]at hat;cases hat
 have hgn:∀ g',Mem.at ((g,.row (ver+1) false nw' sz' xs')::m) g' ≠ .gone→m.at g' ≠ .gone:=fun g' h=>by
  by_cases e:g'=g
  ·subst e;exact hgo
  ·rwa[Mem.at_cons_other _ _ (Ne.symm e)]at h
 refine⟨⟨hw.os,hw.tape,hw.output,hw.size,fun k hkl _=>hw.block k hkl,fun g' k h1 h2=>?_,fun _ h=>h,fun _ h=>h,fun _ h=>.inl h,fun _ h=>.inl h⟩,⟨fun g'=>?_,?_,?_,?_,hm.ns⟩,RdD.of_S hs⟩
 ·by_cases h:g'=g
  ·subst h
   rw[Cf.set_same]at h2
   injection h2 with h2
   subst h2
   exact .inl hb'
  ·rw[Mem.at_cons_other _ _ (Ne.symm h)]at h1
   rw[Cf.set_other C _ _ h]at h2
   exact .inr ⟨g',h1,h2⟩
 ·by_cases h:g'=g
  ·subst h
   rw[Mem.at_cons_same,Cf.set_same]
   exact hbx hd
  ·rw[Mem.at_cons_other _ _ (Ne.symm h),Cf.set_other C _ _ h]
   by_cases hgo':m.at g' = .gone
   ·rw[hgo'];trivial
   ·exact BoxOK.upd (hm.box g') (fun k hkk=>hkg g' k h hgo' hkk) hd hs (fun _ h=>h) (fun _ h=>h)
 ·intro g1 g2 k h1 h2 i1 i2
  have q1:=hgn _ h1
  have q2:=hgn _ h2
  by_cases e1:g1=g
  ·by_cases e2:g2=g
   ·rw[e1,e2]
   ·exfalso
    rw[e1,Cf.set_same]at i1
    injection i1 with i1
    rw[Cf.set_other C _ _ e2]at i2
    have:=BoxOK.lt hm q2 i2
    omega
  ·rw[Cf.set_other C _ _ e1]at i1
   by_cases e2:g2=g
   ·exfalso
    rw[e2,Cf.set_same]at i2
    injection i2 with i2
    have:=BoxOK.lt hm q1 i1
    omega
   ·rw[Cf.set_other C _ _ e2]at i2
    exact hm.inj g1 g2 k q1 q2 i1 i2
 ·intro g' k h1 h2 h3
  by_cases e:g'=g
  ·rw[e,Cf.set_same]at h2
   injection h2 with h2
   have:=hm.sdom k h3
   omega
  ·rw[Mem.at_cons_other _ _ (Ne.symm e)]at h1
   rw[Cf.set_other C _ _ e]at h2
   exact hm.sep g' k h1 h2 h3
 ·intro k hks
  exact Nat.lt_of_lt_of_le (hm.sdom k hks) hw.size
def zln (C:Cf) (s:Nat) (n:Bool) (els:List (List V)) (v:Value):Prop :=
 (els=[]∧∃ a c,v = .slice a 0 c) ∨
 els≠[]∧∃ b off cap,v = .slice (some ⟨b,off,none⟩) els.length cap∧∀ (i j:Nat) (e:List V) (d:V),els[i]? = some e→e[j]? = some d→∃ c,C.w.cell? ⟨b,off+i*s+j,none⟩=some c∧RdF C n d c∧c.oneCell'=true
theorem zgH {C:Cf} {n:Bool} {els:List (List V)} {v:Value} {s:Nat} (h:RdF C n (.slice els) v) (hl:∀ e∈els,e.length=s):zln C s n els v:=by
 unfold RdF at h
 generalize hx:V.slice els=x at h
 cases h with
 | nil=>injection hx with hx;exact .inl ⟨hx,_,_,rfl⟩
 | mt a cap hm=>injection hx with hx;exact .inl ⟨hx,_,_,rfl⟩
 | slice xs b off cap sz cell hc hm hsz h1 hS hw hr =>
  injection hx with hx
  subst hx
  by_cases h0:els=[]
  ·subst h0;exact .inl ⟨rfl,_,_,rfl⟩
  ·have hs:sz=s:=by
    cases els with
    | nil=>exact absurd rfl h0
    | cons e r=>rw[←hsz 0 e rfl];exact hl e (List.mem_cons.2 (.inl rfl))
   subst hs
   exact .inr ⟨h0,b,off,cap,rfl,fun i j e d q1 q2=>⟨_,hw i j e d q1 q2,hr i j e d q1 q2,(zbC (hr i j e d q1 q2) (h1 i j e d q1 q2)).2⟩⟩
 | _=>cases hx
section
variable {P : Program}
theorem zdT {w:World} {t ty el:TypeId} {agg:Bool} {s by_:Nat} {zs:List V} (hu:P.underlying t=some (.slice el)) (ht:TyI P el agg s by_ zs) {ao a:Option Addr} {len cap c:Nat} (hle:len≤cap) :
  (Builtin.append_ #[t,t] ty #[.slice ao len cap,.slice a 0 c]).run P w = .ok (.slice ao len cap) w:=by
 have hf:(Builtin.firstCells s 0 (.slice a 0 c)).run P w = .ok #[] w:=by
  cases a with
  | none=>simp[Builtin.firstCells]
  | some a=>exact run_firstCells_some (P:=P) w s 0 a 0 c [] (by simp) (by simp)
 cases ao with
 | none=>simp[Builtin.append_,zao hu,zaS ht,Builtin.lenOf,hle,hf]
 | some b=>simp[Builtin.append_,zao hu,zaS ht,Builtin.lenOf,hle,hf,storeCells]
theorem run_append_room {w:World} {t ty el:TypeId} {agg:Bool} {s by_:Nat} {zs:List V} (hu:P.underlying t=some (.slice el)) (ht:TyI P el agg s by_ zs) {b len cap m c:Nat} {a:Addr} {news:List Value}
  (hl:news.length=m*s) (hn:∀ j u,news[j]? = some u→w.cell? (a.add j)=some u) (hle:len+m≤cap) {arr:Array Value} {T:TypeId} {fz:Nat×Nat} (hb:w.heap[b]? = some (.cells arr T fz)) (hlo:Loose s arr fz)
  (hsz:len*s+m*s≤arr.size) (h1:∀ u∈news,u.oneCell'=true) :
  ∃ w' arr',(Builtin.append_ #[t,t] ty #[.slice (some ⟨b,0,none⟩) len cap,.slice (some a) m c]).run P w = .ok (.slice (some ⟨b,0,none⟩) (len+m) cap) w'∧w'.heap[b]? = some (.cells arr' T fz)∧arr'.size=arr.size ∧
   (∀ j,arr'[j]? = if len*s≤j∧j<len*s+m*s then news[j-len*s]? else arr[j]?) ∧
   w'.os=w.os∧w'.tape=w.tape∧w'.output=w.output∧w'.heap.size=w.heap.size∧(∀ k,k≠b→w'.heap[k]? = w.heap[k]?):=by
 obtain⟨w',arr',hr,q1,q2,q3,q4⟩:=zbu (P:=P) b T fz news 0 (len*s) w arr hb hlo (by rw[hl];omega) h1
 have hf:=run_firstCells_some (P:=P) w s m a m c news hl hn
 refine⟨w',arr',?_,q1,q2,fun j=>?_,q4⟩
 ·have e:(⟨b,0,none⟩:Addr).add (len*s)=⟨b,len*s,none⟩:=by rw[aadd,Nat.zero_add]
  simp[Builtin.append_,zao hu,zaS ht,Builtin.lenOf,hle,hf,e,hr]
 ·rw[q3 j,hl];simp
theorem zhP {w:World} {t ty el:TypeId} {agg:Bool} {s by_:Nat} {zs:List V} (hu:P.underlying t=some (.slice el)) (ht:TyI P el agg s by_ zs) (hs:0<s) {ao:Option Nat} {len cap m c:Nat} {a:Addr} {olds news:List Value}
  (hnone:ao=none→len=0∧cap=0) (hlo:olds.length=len*s) (holds:∀ b,ao=some b→∀ j u,olds[j]? = some u→w.cell? ⟨b,j,none⟩=some u)
  (hl:news.length=m*s) (hn:∀ j u,news[j]? = some u→w.cell? (a.add j)=some u) (hm:0<m) (h1:∀ u∈news,u.oneCell'=true)
  (hg:cap<len+m) (h63:len+m≤maxLen) (hby:(len+m)*by_≤140737488355328) :
  ∃ v' w' b' cap' cur,(Builtin.append_ #[t,t] ty #[.slice (ao.map fun b=>⟨b,0,none⟩) len cap,.slice (some a) m c]).run P w = .ok v' w'∧v' = .slice (some ⟨b',0,none⟩) (len+m) cap'∧w.heap.size≤b'∧Grew w w' ∧
   w'.heap[b']? = some (.cells cur el (0,0))∧len+m≤cap'∧cap'≤maxLen∧cur.size=cap'*s∧cur.toList.take ((len+m)*s)=olds++news:=by
 obtain⟨i,hi,hsz,hbt,hz⟩:=ht.info
 have hzs:(zval agg zs).cells.size=s:=by rw[zcells ht];simp[ht.zl]
 cases ao with
 | some b =>
  obtain⟨v',w',r1,r2,r3⟩:=run_append_arg_grows (P:=P) w t ty el i _ s by_ hu hi hz hsz hbt hzs hs ⟨b,0,none⟩ len cap olds hlo (fun j u hj=>by rw[aadd,Nat.zero_add];exact holds b rfl j u hj) a m c news hl hn hg h63 hby
  obtain⟨_,r2⟩:=r2
  rcases r2 with⟨_,h0⟩|⟨b',cap',cur,e1,e2,e3,e4,e5,e6,e7⟩
  ·omega
  ·exact⟨v',w',b',cap',cur,r1,e1,e2,⟨r3.os,r3.tape,r3.output,r3.size,fun k hk=>r3.block k hk (by simp)⟩,e3,e4,e5,e6,e7⟩
 | none =>
  obtain⟨rfl,rfl⟩:=hnone rfl
  obtain rfl:olds=[]:=by cases olds with|nil=>rfl|cons _ _=>simp at hlo
  obtain⟨v',w',r1,r2,r3,_⟩:=run_append_own_at (P:=P) w w.heap.size t ty el i _ s by_ hu hi hz hsz hbt hzs hs (.slice none 0 0) 0 [] ⟨by simp,.inl ⟨rfl,rfl⟩⟩ a m c news hl hn h1 (by omega) hby (Nat.le_refl _)
  obtain⟨_,r2⟩:=r2
  rcases r2 with⟨_,h0⟩|⟨b',cap',cur,e1,e2,e3,e4,e5,e6,e7⟩
  ·omega
  ·exact⟨v',w',b',cap',cur,r1,e1,e2,⟨r3.os,r3.tape,r3.output,r3.size,fun k hk=>r3.block k hk (by simp[Value.ownBlock])⟩,e3,e4,e5,e6,e7⟩
end
theorem zgI {s q m:Nat} (hs:0<s) (h:q<m*s):q / s<m∧q % s<s∧q=q / s*s+q % s:=by
 refine⟨?_,Nat.mod_lt _ hs,?_⟩
 ·exact(Nat.div_lt_iff_lt_mul hs).2 h
 ·have:=Nat.div_add_mod q s
  rw[Nat.mul_comm]at this
  exact this.symm
theorem zmr {C C':Cf} {m:Mem} (hm:HoldsM C m) {nw nf:Bool} {s len:Nat} {xs els:List (List V)} {arr A:Array Value} {news:List Value} (hlx:len=xs.length)
  (hold:∀ (i j:Nat) (e:List V) d c,xs[i]? = some e→e[j]? = some d→arr[i*s+j]? = some c→RdF C nw d c)
  (hnew:∀ (i j:Nat) (e:List V) d c,els[i]? = some e→e[j]? = some d→news[i*s+j]? = some c→RdF C nf d c)
  (hx:∀ (i:Nat) (e:List V),xs[i]? = some e→e.length=s) (he:∀ (i:Nat) (e:List V),els[i]? = some e→e.length=s)
  (hA1:∀ k,k<len*s→A[k]? = arr[k]?) (hA2:∀ q,q<els.length*s→A[len*s+q]? = news[q]?) (hd:∀ n x v,RdF C n x v→RdF C' n x v) :
  ∀ (i j:Nat) (e:List V) d c,(xs++els)[i]? = some e→e[j]? = some d→A[i*s+j]? = some c→RdF C' (nw && nf) d c:=by
 intro i j e d c h1 h2 h3
 refine hd _ _ _ ?_
 by_cases hi:i<xs.length
 ·rw[List.getElem?_append_left hi]at h1
  have hj:j<s:=by rw[←hx i e h1];exact(List.getElem?_eq_some_iff.1 h2).1
  rw[hA1 _ (by rw[hlx];exact zdr hi hj)]at h3
  exact(hold i j e d c h1 h2 h3).and hm
 ·rw[List.getElem?_append_right (by omega)]at h1
  have hj:j<s:=by rw[←he _ e h1];exact(List.getElem?_eq_some_iff.1 h2).1
  have hi2:i-xs.length<els.length:=(List.getElem?_eq_some_iff.1 h1).1
  have e1:i*s+j=len*s+((i-xs.length)*s+j):=by
   rw[hlx,←Nat.add_assoc,←Nat.add_mul]
   congr 2;omega
  rw[e1,hA2 _ (zdr hi2 hj)]at h3
  exact(hnew _ j e d c h1 h2 h3).and' hm
section
variable {P : Program} {e : Operand → D} {m : Mem} {dst : Option Tmp} {ty : TypeId} {pos : String} {af : Array Edge} {gd : Option (Nat × Bool)} {x y : Operand} {t : TypeId}
theorem zeJ {g ver len s by_ el:Nat} {agg n nw nf:Bool} {zs:List V} {xs els:List (List V)} (hu:SlcI P t el) (ht:TyI P el agg s by_ zs) {C:Cf} {m':Mem} {a:Act} {next:Act→World→Prop} {Q:Exit→Act→World→Prop}
  (hm:HoldsM C m') (g1:RdD C m' (.own g ver 0 len) (a.eval x)) (hmg':m'.at g = .row ver false nw s xs) (hy0:zln C s n els (a.eval y)) (hlx:len=xs.length) (hel:∀ e∈els,e.length=s∧∀ d∈e,d.one=true) (hnf:nf=n∨∀ e∈els,∀ d∈e,Flat d) (hs:0<s)
  (hb:(len+els.length)*(by_+1)≤140737488355328)
  (hn:∀ v C',Step C m' C' ((g,.row (ver+1) false (nw && nf) s (xs++els))::m')→RdD C' ((g,.row (ver+1) false (nw && nf) s (xs++els))::m') (.own g (ver+1) 0 (len+els.length)) v→next (a.put dst v) C'.w) :
  Oper.wp P ⟨dst,.call { callee := .builtin .append,args := #[x,y],argTypes := #[t,t] },ty,pos,af,gd⟩ a C.w next Q:=by
 obtain⟨ver',frz',nw',sz',xs',hat,_,_,hv0⟩:=g1
 rw[hmg']at hat
 injection hat with e1 e2 e3 e4 e5
 subst e1 e2 e3 e4 e5
 obtain⟨hlen,hv⟩:=hv0 rfl
 clear hv0
 have hb1:(len+els.length)*by_≤140737488355328:=Nat.le_trans (Nat.mul_le_mul_left _ (Nat.le_succ _)) hb
 have hb2:len+els.length≤140737488355328:=by
  have:(len+els.length)*1≤(len+els.length)*(by_+1):=Nat.mul_le_mul_left _ (by omega)
  omega
 have hexec:∀ {v:Value} {w':World},(Builtin.append_ #[t,t] ty #[a.eval x,a.eval y]).run P C.w = .ok v w' →
   (execOp a.eval ⟨dst,.call { callee := .builtin .append,args := #[x,y],argTypes := #[t,t] },ty,pos,af,gd⟩).run P C.w = .ok (.value v) w':=fun h=>by
  simp[execOp,resolve,invoke,builtin,h]
 have hbox:=hm.box g
 rw[hmg']at hbox
 rcases hy0 with⟨rfl,ay,cy,hy⟩|⟨h0,b2,off,cy,hy,hcell⟩
 ·-- nothing is appended
  have hrun:(Builtin.append_ #[t,t] ty #[a.eval x,a.eval y]).run P C.w = .ok (a.eval x) C.w:=by
   rw[hy]
   cases hi:C.ι g with
   | none =>
    rw[hi]at hv
    obtain⟨hv,_,rfl⟩:=hv
    rw[hv]
    exact zdT hu.out ht (Nat.le_refl _)
   | some b =>
    rw[hi]at hv
    obtain⟨cap,arr,T,fz,hv,_,_,hle,_⟩:=hv
    rw[hv]
    exact zdT hu.out ht hle
  have hst:=Step.bump (nw':=nw && nf) hm hmg' (by
   cases nw
   ·exact .inl rfl
   ·cases nf
    ·exact .inr (.inl rfl)
    ·exact .inl rfl)
  refine zaC (hexec hrun) (hn _ C (by simpa using hst) ?_)
  refine⟨ver+1,false,nw && nf,s,xs,?_,Nat.le_refl _,?_,fun _=>⟨by simp;omega,?_⟩⟩
  ·simp[Mem.at_cons_same]
  ·cases hi:C.ι g with
   | none=>rw[hi]at hv;exact⟨_,_,_,hv.1⟩
   | some b=>rw[hi]at hv;obtain⟨_,_,_,_,hv,_⟩:=hv;exact⟨_,_,_,hv⟩
  ·simpa using hv
 ·have hmpos:0<els.length:=List.length_pos_iff.2 h0
  let news:List Value:=(List.range (els.length*s)).map fun q=>(C.w.cell? ⟨b2,off+q,none⟩).getD undef
  have hnl:news.length=els.length*s:=by simp[news]
  have hel':∀ (i:Nat) (e:List V),els[i]? = some e→e.length=s:=fun i e h=>(hel e (List.mem_of_getElem? h)).1
  have hat:∀ q,q<els.length*s→∃ c,C.w.cell? ⟨b2,off+q,none⟩=some c∧news[q]? = some c∧c.oneCell'=true:=fun q hq=>by
   obtain⟨k1,k2,k3⟩:=zgI hs hq
   have he:=List.getElem?_eq_getElem k1
   have hl:=hel' _ _ he
   obtain⟨c,c1,_,c3⟩:=hcell (q / s) (q % s) _ _ he (List.getElem?_eq_getElem (by omega))
   rw[Nat.add_assoc,←k3]at c1
   refine⟨c,c1,?_,c3⟩
   simp[news,hq,c1]
  have hnews:∀ j u,news[j]? = some u→C.w.cell? ((⟨b2,off,none⟩:Addr).add j)=some u:=fun j u hj=>by
   have hlt:j<els.length*s:=by rw[←hnl];exact(List.getElem?_eq_some_iff.1 hj).1
   obtain⟨c,c1,c2,_⟩:=hat j hlt
   rw[hj]at c2
   injection c2 with c2
   rw[aadd,c1,c2]
  have hone:∀ u∈news,u.oneCell'=true:=fun u hu'=>by
   obtain⟨j,hj⟩:=List.getElem?_of_mem hu'
   have hlt:j<els.length*s:=by rw[←hnl];exact(List.getElem?_eq_some_iff.1 hj).1
   obtain⟨c,_,c2,c3⟩:=hat j hlt
   rw[hj]at c2
   injection c2 with c2
   rw[c2];exact c3
  have hnew:∀ (i j:Nat) (e:List V) d c,els[i]? = some e→e[j]? = some d→news[i*s+j]? = some c→RdF C nf d c:=fun i j e d c q1 q2 q3=>by
   obtain⟨c',c1,c2,_⟩:=hcell i j e d q1 q2
   have hj:j<s:=by rw[←hel' i e q1];exact(List.getElem?_eq_some_iff.1 q2).1
   obtain⟨c'',d1,d2,_⟩:=hat (i*s+j) (zdr (List.getElem?_eq_some_iff.1 q1).1 hj)
   rw[←Nat.add_assoc,c1]at d1
   injection d1 with d1
   rw[q3]at d2
   injection d2 with d2
   subst d1 d2
   rcases hnf with rfl|hf
   ·exact c2
   ·exact RdF.flat c2 (hf e (List.mem_of_getElem? q1) d (List.mem_of_getElem? q2))
  have honeV:∀ (i j:Nat) (e:List V) (d:V),els[i]? = some e→e[j]? = some d→d.one=true:=fun i j e d q1 q2=>(hel e (List.mem_of_getElem? q1)).2 d (List.mem_of_getElem? q2)
  have happ:∀ {Z:Type} (f:List V→Prop),(∀ (i:Nat) e,xs[i]? = some e→f e)→(∀ (i:Nat) e,els[i]? = some e→f e)→∀ (i:Nat) e,(xs++els)[i]? = some e→f e:=fun {Z} f h1 h2 i e h=>by
   by_cases hi:i<xs.length
   ·rw[List.getElem?_append_left hi]at h;exact h1 i e h
   ·rw[List.getElem?_append_right (by omega)]at h;exact h2 _ e h
  -- the row that results, wherever it lies
  have hdone:∀ (C':Cf) (b':Nat) (arr A:Array Value) (T:TypeId) (fz:Nat×Nat),C'.w.heap[b']? = some (.cells A T fz)→Loose s A fz→(len+els.length)*s≤A.size →
    (∀ n x v,RdF C n x v→RdF C' n x v)→(∀ (i j:Nat) (e:List V) d c,xs[i]? = some e→e[j]? = some d→arr[i*s+j]? = some c→RdF C nw d c)→(∀ (i:Nat) (e:List V),xs[i]? = some e→e.length=s) →
    (∀ (i j:Nat) (e:List V) (d:V),xs[i]? = some e→e[j]? = some d→d.one=true)→(∀ k,k<len*s→A[k]? = arr[k]?)→(∀ q,q<els.length*s→A[len*s+q]? = news[q]?)→ziF C' b' false (nw && nf) s (xs++els):=by
   intro C' b' arr A T fz q1 q2 q3 q4 q5 q6 q7 q8 q9
   refine⟨A,T,fz,q1,q2,by rw[List.length_append,←hlx];exact q3,happ (Z:=Unit) (fun e=>e.length=s) q6 hel',fun i j e d k1 k2=>?_,zmr hm hlx q5 hnew q6 hel' q8 q9 q4,fun h=>by cases h⟩
   exact happ (Z:=Unit) (fun e=>∀ (j:Nat) d,e[j]? = some d→d.one=true) (fun i e h j d h2=>q7 i j e d h h2) (fun i e h j d h2=>honeV i j e d h h2) i e k1 j d k2
  have hmove:∀ {ao:Option Nat} {cap:Nat} {olds:List Value} {arr:Array Value},a.eval x = .slice (ao.map fun b=>⟨b,0,none⟩) len cap→(ao=none→len=0∧cap=0)→olds.length=len*s →
    (∀ b,ao=some b→∀ j u,olds[j]? = some u→C.w.cell? ⟨b,j,none⟩=some u)→(∀ k,k<len*s→olds[k]? = arr[k]?)→cap<len+els.length →
    (∀ (i j:Nat) (e:List V) d c,xs[i]? = some e→e[j]? = some d→arr[i*s+j]? = some c→RdF C nw d c)→(∀ (i:Nat) (e:List V),xs[i]? = some e→e.length=s) →
    (∀ (i j:Nat) (e:List V) (d:V),xs[i]? = some e→e[j]? = some d→d.one=true) →
    Oper.wp P ⟨dst,.call { callee := .builtin .append,args := #[x,y],argTypes := #[t,t] },ty,pos,af,gd⟩ a C.w next Q:=by
   intro ao cap olds arr hv hnone hol holds hoa hg q5 q6 q7
   obtain⟨v',w',b',cap',cur,r1,r2,r3,r4,r5,r6,r7,r8,r9⟩:=zhP (P:=P) (ty:=ty) (c:=cy) hu.out ht hs hnone hol holds hnl hnews hmpos hone hg (by unfold maxLen;omega) hb1
   have hcs:(len+els.length)*s≤cur.size:=by rw[r8];exact Nat.mul_le_mul_right _ r6
   have hcur:∀ k,k<(len+els.length)*s→cur[k]? = (olds++news)[k]? := fun k hk=>by
    rw[←r9,List.getElem?_take,if_pos hk,Array.getElem?_toList]
   have hst:Step C m' (C.set g (some b') w') ((g,.row (ver+1) false (nw && nf) s (xs++els))::m'):=by
    refine Step.move hm hmg' r4 r3 ⟨_,_,_,rfl⟩ (fun hd=>?_)
    refine hdone _ b' arr cur el (0,0) r5 (loose0 _) hcs hd q5 q6 q7 (fun k hk=>?_) (fun q hq=>?_)
    ·rw[hcur k (by rw[Nat.add_mul];omega),List.getElem?_append_left (by omega),hoa k hk]
    ·rw[hcur _ (by rw[Nat.add_mul];omega),List.getElem?_append_right (by omega),hol]
     congr 1;omega
   refine zaC (w':=w') (hexec (by rw[hv,hy];exact r1)) (hn v' (C.set g (some b') w') hst ?_)
   refine⟨ver+1,false,nw && nf,s,xs++els,Mem.at_cons_same _ _ _,Nat.le_refl _,⟨_,_,_,r2⟩,fun _=>⟨by rw[List.length_append];omega,?_⟩⟩
   rw[Cf.set_same]
   refine⟨cap',cur,el,(0,0),by rw[Nat.zero_mul];exact r2,r5,by rw[r8];simp,r6,r7⟩
  cases hi:C.ι g with
  | none =>
   rw[hi]at hv hbox
   obtain⟨hv,_,hl0⟩:=hv
   have hx0:xs=[]:=hbox
   refine hmove (ao:=none) (cap:=0) (olds := []) (arr := #[]) (by rw[hv,hl0];rfl) (fun _=>⟨hl0,rfl⟩) (by simp[hl0]) (fun b hb=>by cases hb) (fun k hk=>by simp[hl0]at hk) (by omega) ?_ ?_ ?_
   ·intro i j e d c h;simp[hx0]at h
   ·intro i e h;simp[hx0]at h
   ·intro i j e d h;simp[hx0]at h
  | some b =>
   rw[hi]at hv hbox
   obtain⟨cap,arr,T,fz,hv,hh,hle,hlc,hcm⟩:=hv
   obtain⟨arr',T',fz',k1,k2,k3,k4,k5,k6,_⟩:=hbox
   rw[hh]at k1
   injection k1 with k1
   injection k1 with k1 k1' k1''
   subst k1 k1' k1''
   rw[Nat.zero_mul]at hv
   rw[Nat.zero_add]at hle
   by_cases hr:len+els.length≤cap
   ·have hls:len*s+els.length*s≤arr.size:=by
     rw[←Nat.add_mul];exact Nat.le_trans (Nat.mul_le_mul_right _ hr) hle
    obtain⟨w',A,r1,r2,r3,r4,r5,r6,r7,r8,r9⟩:=run_append_room (P:=P) (ty:=ty) (c:=cy) hu.out ht hnl hnews hr hh k2 hls hone
    have hst:Step C m' { C with w:=w' } ((g,.row (ver+1) false (nw && nf) s (xs++els))::m'):=by
     refine Step.write hm (by rw[hmg'];rfl) hi r5 r6 r7 r8 r9 ?_ ?_ ?_ ?_ (fun hd _=>?_)
     ·rintro v0 lo0 len0 u ⟨ver',_,_,_,_,hat,hle,ha,_⟩
      rw[hmg']at hat
      injection hat with e1
      subst e1
      exact⟨ver+1,false,nw && nf,s,xs++els,Mem.at_cons_same _ _ _,by omega,ha,fun e=>by omega⟩
     ·rintro off v ⟨_,_,_,_,hat,_⟩;rw[hmg']at hat;cases hat
     ·rintro v i0 off0 u ⟨ver',_,_,_,_,hat,hle,ha,_⟩
      rw[hmg']at hat
      injection hat with e1
      subst e1
      exact⟨ver+1,false,nw && nf,s,xs++els,Mem.at_cons_same _ _ _,by omega,ha,fun e=>by omega⟩
     ·rintro v ⟨_,_,_,_,hat,_⟩;rw[hmg']at hat;cases hat
     ·refine hdone _ b arr A T fz r2 (⟨fun i hi=>k2.1 i (by omega),k2.2⟩) (by rw[r3,Nat.add_mul];exact hls) hd k6 k4 k5 (fun k hk=>?_) (fun q hq=>?_)
      ·rw[r4 k,if_neg (by omega)]
      ·rw[r4 _,if_pos (by omega)]
       congr 1;omega
    refine zaC (w':=w') (hexec (by rw[hv,hy];exact r1)) (hn _ { C with w:=w' } hst ?_)
    refine⟨ver+1,false,nw && nf,s,xs++els,Mem.at_cons_same _ _ _,Nat.le_refl _,⟨_,_,_,rfl⟩,fun _=>⟨by rw[List.length_append];omega,?_⟩⟩
    show OwnV w' s (C.ι g) 0 (len+els.length) _
    rw[hi]
    exact⟨cap,A,T,fz,by rw[Nat.zero_mul],r2,by rw[r3,Nat.zero_add];exact hle,hr,hcm⟩
   ·refine hmove (ao:=some b) (cap:=cap) (olds:=arr.toList.take (len*s)) (arr:=arr) hv (fun h=>by cases h) ?_ ?_ ?_ (by omega) k6 k4 k5
    ·rw[List.length_take,Array.length_toList]
     have:len*s≤cap*s:=Nat.mul_le_mul_right _ hlc
     omega
    ·intro b0 hb0 j u hj
     injection hb0 with hb0
     subst hb0
     rw[List.getElem?_take]at hj
     split at hj
     ·rw[zaz hh];simpa using hj
     ·cases hj
    ·intro k hk
     rw[List.getElem?_take,if_pos hk,Array.getElem?_toList]
end
theorem zfr {P:Program} {Q:Exit→St→Prop} {s:St} {c:Operand} {x y:Code} {n b:Bool} (hc:ev s c = .dat n (.bool b)) (hb:b=true) (h:DW P x Q s):DW P (.cond c x y) Q s :=
 zat hc (fun _=>h) (fun h'=>by rw[hb]at h';cases h')
theorem zcs {P:Program} {Q:Exit→St→Prop} {s:St} {c:Operand} {x y:Code} {n b:Bool} (hc:ev s c = .dat n (.bool b)) (hb:b=false) (h:DW P y Q s):DW P (.cond c x y) Q s :=
 zat hc (fun h'=>by rw[hb]at h';cases h') (fun _=>h)
theorem znb {P:Program} {c:Code} {Q:Exit→St→Prop} {env:Env} {mem:Mem} {n g ver len sz:Nat} {nw:Bool} {xs:List (List V)} (t:Nat) (h:env.at t = .own g ver 0 len) (hm:mem.at g = .row ver true nw sz xs) (hl:len=xs.length)
  (k:DW P c Q ⟨(t,.dat nw (.slice xs))::env,mem,n⟩):DW P c Q ⟨env,mem,n⟩:=fun C a hh=>by
 refine k C a ⟨hh.mem,hh.defers,hh.size,fun t'=>?_⟩
 show RdD C mem (Env.at ((t,.dat nw (.slice xs))::env) t') _
 unfold Env.at
 rw[zai]
 by_cases e:t=t'
 ·subst e
  rw[if_pos rfl]
  have hv:asV mem (env.at t)=some (nw,.slice xs):=by
   rw[h]
   subst hl
   simp[asV,asV0,hm]
  exact zcF hh.mem (fun _ _=>rfl) hv (hh.env t)
 ·rw[if_neg e]
  exact hh.env t'
theorem zaR {P:Program} {c:Code} {Q:Exit→St→Prop} {env:Env} {mem:Mem} {n g ver len sz:Nat} {nw frz:Bool} {xs:List (List V)} (t:Nat) (h:env.at t = .own g ver 0 len) (hm:mem.at g = .row ver frz nw sz xs) (hl:len=xs.length)
  (k:DW P c Q ⟨(t,.dat nw (.slice xs))::env,(g,.row ver true nw sz xs)::mem,n⟩):DW P c Q ⟨env,mem,n⟩:=by
 refine zaD g (fun kt et es=>by rw[hm];simp) ?_
 rw[hm]
 exact znb t h (Mem.at_cons_same _ _ _) hl k
end Go.Proofs.YtcdhlofhhcgohaaGreat
