/- append to a slice of one's own that begins behind the row's beginning: in place, or somewhere else; regions one of whose operations has two outcomes. -/
import Derived.Test.YtcdhlofhhcgohaaGreatwdRlr
import Derived.Test.YtcdhlofhhcgohaaGreatwbGo
namespace Go.Proofs.YtcdhlofhhcgohaaGreat
open Go.RowKit
theorem Frame.same_self (f:Frame):f.same f=true:=by unfold Frame.same;simp
theorem zrq {g:Gate} {f:Frame} {v:Int} (hf:f.ok) (hv:0≤v∧v≤4094):(zcA g f v).ok:=by
 have h:=hf
 unfold zcA
 split
 ·exact⟨h.d0,h.d1,h.s0,h.s1,by simp,by simp,by simp,by simp,h.t0,h.t1,h.l⟩
 ·refine⟨h.d0,h.d1,h.s0,h.s1,?_,?_,by simp only;omega,by simp only;omega,h.t0,h.t1,h.l⟩
  ·simp only;split
   ·exact h.p0
   ·omega
  ·simp only;split
   ·exact h.p1
   ·omega
theorem zl0 (r:Region) (gs:List Gate) (l:List Ent) (port:Int) (f:Frame) :
  ((zaQ r gs l port f).2.2≠0∧(zaQ r gs l port f).1=[]∧(zaQ r gs l port f).2.1=[])∨(AllRight r gs l f∧∃ g,zdi gs port=some g∧zaQ r gs l port f=zhb r gs l port f g):=by
 by_cases h1:r.wrong=0
 case neg=>unfold zaQ;rw[if_pos h1];exact .inl ⟨h1,rfl,rfl⟩
 by_cases h2:(zcz gs).1=0
 case neg=>unfold zaQ;rw[if_neg (fun h=>h h1),if_pos h2];exact .inl ⟨h2,rfl,rfl⟩
 by_cases h3:(zcc l).1=0
 case neg=>unfold zaQ;rw[if_neg (fun h=>h h1),if_neg (fun h=>h h2),if_pos h3];exact .inl ⟨h3,rfl,rfl⟩
 by_cases h4:f.wrong=0
 case neg=>unfold zaQ;rw[if_neg (fun h=>h h1),if_neg (fun h=>h h2),if_neg (fun h=>h h3),if_pos h4];exact .inl ⟨h4,rfl,rfl⟩
 rw[zea ⟨h1,h2,h3,h4⟩]
 cases hg:zdi gs port with
 | none=>rw[zeT hg];exact .inl ⟨by decide,rfl,rfl⟩
 | some g=>rw[zeU hg];exact .inr ⟨⟨h1,h2,h3,h4⟩,g,rfl,rfl⟩
theorem znN {gs:List Gate} {port:Int} {g:Gate} (h:zdi gs port=some g):g∈gs∧g.port=port:=by
 unfold zdi at h
 exact⟨List.mem_of_find?_eq_some h,by have:=List.find?_some h;simpa using this⟩
theorem zl1 {r:Region} {gs:List Gate} {l:List Ent} {port:Int} {f:Frame} (hf:f.ok):∀ o∈(zaQ r gs l port f).1,o.2.ok:=by
 rcases zl0 r gs l port f with⟨_,h,_⟩|⟨ha,g,hg,h⟩
 ·rw[h];intro o ho;cases ho
 ·rw[h]
  unfold zhb
  split
  ·intro o ho;cases ho
  ·intro o ho
   obtain⟨hm,_⟩:=znN hg
   have hw:=zpB ((zha ha.g).g g hm) ha.f
   obtain⟨u,_,rfl⟩:=List.mem_map.1 ho
   exact zrq hf hw
attribute [local irreducible] SStep DW DWin DOps zaG zaE zaJ retQ zaN FnF FnG Wk IntKind.wrap IntKind.andI IntKind.orI IntKind.xorI IntKind.andNotI IntKind.shlI IntKind.shrI Ent.cmp bsG zck zhU zaU zff zgb Gate.passes zcp zcA zdi
end Go.Proofs.YtcdhlofhhcgohaaGreat
namespace Go.Proofs.YtcdhlofhhcgohaaGreat
open Go.RowKit
section
variable {P : Program} {e : Operand → D} {m : Mem} {dst : Option Tmp} {ty : TypeId} {pos : String} {af : Array Edge} {gd : Option (Nat × Bool)} {x y : Operand} {t : TypeId}
theorem zgd {w:World} {t ty el:TypeId} {agg:Bool} {s by_:Nat} {zs:List V} (hu:P.underlying t=some (.slice el)) (ht:TyI P el agg s by_ zs) {b lo len cap m c:Nat} {a:Addr} {news:List Value}
  (hl:news.length=m*s) (hn:∀ j u,news[j]? = some u→w.cell? (a.add j)=some u) (hle:len+m≤cap) {arr:Array Value} {T:TypeId} {fz:Nat×Nat} (hb:w.heap[b]? = some (.cells arr T fz)) (hlo:Loose s arr fz)
  (hsz:(lo+len)*s+m*s≤arr.size) (h1:∀ u∈news,u.oneCell'=true) :
  ∃ w' arr',(Builtin.append_ #[t,t] ty #[.slice (some ⟨b,lo*s,none⟩) len cap,.slice (some a) m c]).run P w = .ok (.slice (some ⟨b,lo*s,none⟩) (len+m) cap) w'∧w'.heap[b]? = some (.cells arr' T fz)∧arr'.size=arr.size ∧
   (∀ j,arr'[j]? = if(lo+len)*s≤j∧j<(lo+len)*s+m*s then news[j-(lo+len)*s]? else arr[j]?) ∧
   w'.os=w.os∧w'.tape=w.tape∧w'.output=w.output∧w'.heap.size=w.heap.size∧(∀ k,k≠b→w'.heap[k]? = w.heap[k]?):=by
 obtain⟨w',arr',hr,q1,q2,q3,q4⟩:=zbu (P:=P) b T fz news 0 ((lo+len)*s) w arr hb hlo (by rw[hl];omega) h1
 have hf:=run_firstCells_some (P:=P) w s m a m c news hl hn
 refine⟨w',arr',?_,q1,q2,fun j=>?_,q4⟩
 ·have e:(⟨b,lo*s,none⟩:Addr).add (len*s)=⟨b,(lo+len)*s,none⟩:=by rw[aadd,←Nat.add_mul]
  simp[Builtin.append_,zao hu,zaS ht,Builtin.lenOf,hle,hf,e,hr]
 ·rw[q3 j,hl];simp
theorem zkS {g ver lo len s by_ el:Nat} {agg n nw nf:Bool} {zs:List V} {xs els:List (List V)} (hu:SlcI P t el) (ht:TyI P el agg s by_ zs) {C:Cf} {m':Mem} {a:Act} {next:Act→World→Prop} {Q:Exit→Act→World→Prop}
  (hm:HoldsM C m') (g1:RdD C m' (.own g ver lo len) (a.eval x)) (hmg':m'.at g = .row ver false nw s xs) (hy0:zln C s n els (a.eval y)) (hlx:lo+len≤xs.length) (hel:∀ e∈els,e.length=s∧∀ d∈e,d.one=true) (hnf:nf=n∨∀ e∈els,∀ d∈e,Flat d) (hs:0<s) (hne:els≠[])
  (hb:(len+els.length)*(by_+1)≤140737488355328)
  (hn:∀ pre,(pre=xs.take lo∨pre=[])→∀ v C',Step C m' C' ((g,.row (ver+1) false (nw && nf) s (pre++(xs.drop lo).take len++els))::m')→RdD C' ((g,.row (ver+1) false (nw && nf) s (pre++(xs.drop lo).take len++els))::m') (.own g (ver+1) pre.length (len+els.length)) v→next (a.put dst v) C'.w) :
  Oper.wp P ⟨dst,.call { callee := .builtin .append,args := #[x,y],argTypes := #[t,t] },ty,pos,af,gd⟩ a C.w next Q:=by
 have g1':=g1
 obtain⟨ver',frz',nw',sz',xs',hat,_,_,hv0⟩:=g1
 rw[hmg']at hat
 injection hat with e1 e2 e3 e4 e5
 subst e1 e2 e3 e4 e5
 obtain⟨hlen,hv⟩:=hv0 rfl
 clear hv0
 have hb1:(len+els.length)*by_≤140737488355328:=Nat.le_trans (Nat.mul_le_mul_left _ (Nat.le_succ _)) hb
 have hb2:len+els.length≤140737488355328:=by
  have:(len+els.length)*1≤(len+els.length)*(by_+1):=Nat.mul_le_mul_left _ (by omega)
  omega
 have hexec:∀ {v:Value} {w':World},(Builtin.append_ #[t,t] ty #[a.eval x,a.eval y]).run P C.w = .ok v w' →
   (execOp a.eval ⟨dst,.call { callee := .builtin .append,args := #[x,y],argTypes := #[t,t] },ty,pos,af,gd⟩).run P C.w = .ok (.value v) w':=fun h=>by
  simp[execOp,resolve,invoke,builtin,h]
 have hbox:=hm.box g
 rw[hmg']at hbox
 cases hi:C.ι g with
 | none =>
  rw[hi]at hv hbox
  obtain⟨_,h0,h1⟩:=hv
  have hx0:xs=[]:=hbox
  subst h0 h1 hx0
  refine zeJ hu ht hm g1' hmg' hy0 rfl hel hnf hs hb (fun v C' h1 h2=>hn [] (.inr rfl) v C' ?_ ?_)
  ·simpa using h1
  ·simpa using h2
 | some b =>
 rw[hi]at hv hbox
 obtain⟨cap,arr,T,fz,hv,hh,hle,hlc,hcm⟩:=hv
 have htk:xs.take lo++(xs.drop lo).take len=xs.take (lo+len):=by rw[List.take_add]
 have htl:(xs.take lo).length=lo:=by rw[List.length_take];omega
 have htL:(xs.take (lo+len)).length=lo+len:=by rw[List.length_take];omega
 have htg:∀ (i:Nat) e,(xs.take (lo+len))[i]? = some e→xs[i]? = some e:=fun i e h=>by
  rw[List.getElem?_take]at h
  split at h
  ·exact h
  ·cases h
 rcases hy0 with⟨h0,_⟩|⟨h0,b2,off,cy,hy,hcell⟩
 ·exact absurd h0 hne
 have hmpos:0<els.length:=List.length_pos_iff.2 h0
 obtain⟨arr',T',fz',k1,k2,k3,k4,k5,k6,_⟩:=hbox
 rw[hh]at k1
 injection k1 with k1
 injection k1 with k1 k1' k1''
 subst k1 k1' k1''
 let news:List Value:=(List.range (els.length*s)).map fun q=>(C.w.cell? ⟨b2,off+q,none⟩).getD undef
 have hnl:news.length=els.length*s:=by simp[news]
 have hel':∀ (i:Nat) (e:List V),els[i]? = some e→e.length=s:=fun i e h=>(hel e (List.mem_of_getElem? h)).1
 have hat:∀ q,q<els.length*s→∃ c,C.w.cell? ⟨b2,off+q,none⟩=some c∧news[q]? = some c∧c.oneCell'=true:=fun q hq=>by
  obtain⟨k1,k2,k3⟩:=zgI hs hq
  have he:=List.getElem?_eq_getElem k1
  have hl:=hel' _ _ he
  obtain⟨c,c1,_,c3⟩:=hcell (q / s) (q % s) _ _ he (List.getElem?_eq_getElem (by omega))
  rw[Nat.add_assoc,←k3]at c1
  refine⟨c,c1,?_,c3⟩
  simp[news,hq,c1]
 have hnews:∀ j u,news[j]? = some u→C.w.cell? ((⟨b2,off,none⟩:Addr).add j)=some u:=fun j u hj=>by
  have hlt:j<els.length*s:=by rw[←hnl];exact(List.getElem?_eq_some_iff.1 hj).1
  obtain⟨c,c1,c2,_⟩:=hat j hlt
  rw[hj]at c2
  injection c2 with c2
  rw[aadd,c1,c2]
 have hone:∀ u∈news,u.oneCell'=true:=fun u hu'=>by
  obtain⟨j,hj⟩:=List.getElem?_of_mem hu'
  have hlt:j<els.length*s:=by rw[←hnl];exact(List.getElem?_eq_some_iff.1 hj).1
  obtain⟨c,_,c2,c3⟩:=hat j hlt
  rw[hj]at c2
  injection c2 with c2
  rw[c2];exact c3
 have hnew:∀ (i j:Nat) (e:List V) d c,els[i]? = some e→e[j]? = some d→news[i*s+j]? = some c→RdF C nf d c:=fun i j e d c q1 q2 q3=>by
  obtain⟨c',c1,c2,_⟩:=hcell i j e d q1 q2
  have hj:j<s:=by rw[←hel' i e q1];exact(List.getElem?_eq_some_iff.1 q2).1
  obtain⟨c'',d1,d2,_⟩:=hat (i*s+j) (zdr (List.getElem?_eq_some_iff.1 q1).1 hj)
  rw[←Nat.add_assoc,c1]at d1
  injection d1 with d1
  rw[q3]at d2
  injection d2 with d2
  subst d1 d2
  rcases hnf with rfl|hf
  ·exact c2
  ·exact RdF.flat c2 (hf e (List.mem_of_getElem? q1) d (List.mem_of_getElem? q2))
 have honeV:∀ (i j:Nat) (e:List V) (d:V),els[i]? = some e→e[j]? = some d→d.one=true:=fun i j e d q1 q2=>(hel e (List.mem_of_getElem? q1)).2 d (List.mem_of_getElem? q2)
 have happ:∀ {Z:Type} (zs:List (List V)) (f:List V→Prop),(∀ (i:Nat) e,zs[i]? = some e→f e)→(∀ (i:Nat) e,els[i]? = some e→f e)→∀ (i:Nat) e,(zs++els)[i]? = some e→f e:=fun {Z} zs f h1 h2 i e h=>by
  by_cases hi:i<zs.length
  ·rw[List.getElem?_append_left hi]at h;exact h1 i e h
  ·rw[List.getElem?_append_right (by omega)]at h;exact h2 _ e h
 -- the row that results, wherever it lies
 have hdone:∀ (zs:List (List V)) (C':Cf) (b':Nat) (arr A:Array Value) (T:TypeId) (fz:Nat×Nat),C'.w.heap[b']? = some (.cells A T fz)→Loose s A fz→(zs.length+els.length)*s≤A.size →
   (∀ n x v,RdF C n x v→RdF C' n x v)→(∀ (i j:Nat) (e:List V) d c,zs[i]? = some e→e[j]? = some d→arr[i*s+j]? = some c→RdF C nw d c)→(∀ (i:Nat) (e:List V),zs[i]? = some e→e.length=s) →
   (∀ (i j:Nat) (e:List V) (d:V),zs[i]? = some e→e[j]? = some d→d.one=true)→(∀ k,k<zs.length*s→A[k]? = arr[k]?)→(∀ q,q<els.length*s→A[zs.length*s+q]? = news[q]?)→ziF C' b' false (nw && nf) s (zs++els):=by
  intro zs C' b' arr A T fz q1 q2 q3 q4 q5 q6 q7 q8 q9
  refine⟨A,T,fz,q1,q2,by rw[List.length_append];exact q3,happ (Z:=Unit) zs (fun e=>e.length=s) q6 hel',fun i j e d k1 k2=>?_,zmr hm rfl q5 hnew q6 hel' q8 q9 q4,fun h=>by cases h⟩
  exact happ (Z:=Unit) zs (fun e=>∀ (j:Nat) d,e[j]? = some d→d.one=true) (fun i e h j d h2=>q7 i j e d h h2) (fun i e h j d h2=>honeV i j e d h h2) i e k1 j d k2
 by_cases hr:len+els.length≤cap
 ·have hls:(lo+len)*s+els.length*s≤arr.size:=by
   rw[←Nat.add_mul];exact Nat.le_trans (Nat.mul_le_mul_right _ (by omega)) hle
  obtain⟨w',A,r1,r2,r3,r4,r5,r6,r7,r8,r9⟩:=zgd (P:=P) (ty:=ty) (c:=cy) hu.out ht hnl hnews hr hh k2 hls hone
  have hst:Step C m' { C with w:=w' } ((g,.row (ver+1) false (nw && nf) s (xs.take (lo+len)++els))::m'):=by
   refine Step.write hm (by rw[hmg'];rfl) hi r5 r6 r7 r8 r9 ?_ ?_ ?_ ?_ (fun hd _=>?_)
   ·rintro v0 lo0 len0 u ⟨ver',_,_,_,_,hat,hle,ha,_⟩
    rw[hmg']at hat
    injection hat with e1
    subst e1
    exact⟨ver+1,false,nw && nf,s,xs.take (lo+len)++els,Mem.at_cons_same _ _ _,by omega,ha,fun e=>by omega⟩
   ·rintro off v ⟨_,_,_,_,hat,_⟩;rw[hmg']at hat;cases hat
   ·rintro v i0 off0 u ⟨ver',_,_,_,_,hat,hle,ha,_⟩
    rw[hmg']at hat
    injection hat with e1
    subst e1
    exact⟨ver+1,false,nw && nf,s,xs.take (lo+len)++els,Mem.at_cons_same _ _ _,by omega,ha,fun e=>by omega⟩
   ·rintro v ⟨_,_,_,_,hat,_⟩;rw[hmg']at hat;cases hat
   ·refine hdone (xs.take (lo+len)) _ b arr A T fz r2 (⟨fun i hi=>k2.1 i (by omega),k2.2⟩) (by rw[r3,Nat.add_mul,htL];exact hls) hd (fun i j e d c h1=>k6 i j e d c (htg i e h1)) (fun i e h1=>k4 i e (htg i e h1)) (fun i j e d h1=>k5 i j e d (htg i e h1)) (fun k hk=>?_) (fun q hq=>?_)
    ·rw[htL]at hk
     rw[r4 k,if_neg (by omega)]
    ·rw[htL,r4 _,if_pos (by omega)]
     congr 1;omega
  refine zaC (w':=w') (hexec (by rw[hv,hy];exact r1)) (hn (xs.take lo) (.inl rfl) _ { C with w:=w' } (by rw[htk];exact hst) ?_)
  rw[htk,htl]
  refine⟨ver+1,false,nw && nf,s,xs.take (lo+len)++els,Mem.at_cons_same _ _ _,Nat.le_refl _,⟨_,_,_,rfl⟩,fun _=>⟨by rw[List.length_append,htL];omega,?_⟩⟩
  show OwnV w' s (C.ι g) lo (len+els.length) _
  rw[hi]
  exact⟨cap,A,T,fz,rfl,r2,by rw[r3];exact hle,hr,hcm⟩
 ·obtain ⟨i,hinf,hsz,hbt,hz⟩:=ht.info
  have hzs:(zval agg zs).cells.size=s:=by rw[zcells ht];simp[ht.zl]
  have hcs0:len*s≤cap*s:=Nat.mul_le_mul_right _ hlc
  rw[Nat.add_mul]at hle
  let olds:List Value:=(arr.toList.drop (lo*s)).take (len*s)
  have hol:olds.length=len*s:=by
   show((arr.toList.drop (lo*s)).take (len*s)).length=_
   rw[List.length_take,List.length_drop,Array.length_toList];omega
  have holg:∀ k,k<len*s→olds[k]? = arr[lo*s+k]? := fun k hk=>by
   show((arr.toList.drop (lo*s)).take (len*s))[k]? = _
   rw[List.getElem?_take,if_pos hk,List.getElem?_drop,Array.getElem?_toList]
  obtain⟨v',w',r1,r2,r3⟩:=run_append_arg_grows (P:=P) C.w t ty el i _ s by_ hu.out hinf hz hsz hbt hzs hs ⟨b,lo*s,none⟩ len cap olds hol (fun j u hj=>by
   have hjl:j<len*s:=by rw[←hol];exact(List.getElem?_eq_some_iff.1 hj).1
   rw[aadd,zaz hh,←holg j hjl];exact hj) ⟨b2,off,none⟩ els.length cy news hnl hnews (by omega) (by unfold maxLen;omega) hb1
  obtain⟨_,r2⟩:=r2
  rcases r2 with⟨_,hz0⟩|⟨b',cap',cur,e1,e2,e3,e4,e5,e6,e7⟩
  ·omega
  have hgr:Grew C.w w':=⟨r3.os,r3.tape,r3.output,r3.size,fun k hk=>r3.block k hk (by simp)⟩
  have hdl:((xs.drop lo).take len).length=len:=by rw[List.length_take,List.length_drop];omega
  have hdg:∀ (i:Nat) e,((xs.drop lo).take len)[i]? = some e→xs[lo+i]? = some e:=fun i e h=>by
   rw[List.getElem?_take]at h
   split at h
   ·rw[List.getElem?_drop]at h;exact h
   ·cases h
  have hcs:(len+els.length)*s≤cur.size:=by rw[e6];exact Nat.mul_le_mul_right _ e4
  have hcur:∀ k,k<(len+els.length)*s→cur[k]? = (olds++news)[k]? := fun k hk=>by
   rw[←e7,List.getElem?_take,if_pos hk,Array.getElem?_toList]
  have hsh:∀ i j:Nat,lo*s+(i*s+j)=(lo+i)*s+j:=fun i j=>by rw[Nat.add_mul,Nat.add_assoc]
  have hst:Step C m' (C.set g (some b') w') ((g,.row (ver+1) false (nw && nf) s ((xs.drop lo).take len++els))::m'):=by
   refine Step.move hm hmg' hgr e2 ⟨_,_,_,rfl⟩ (fun hd=>?_)
   refine hdone ((xs.drop lo).take len) _ b' olds.toArray cur el (0,0) e3 (loose0 _) (by rw[hdl];exact hcs) hd (fun i j e d c q1 q2 q3=>?_) (fun i e q1=>?_) (fun i j e d q1 q2=>?_) (fun k hk=>?_) (fun q hq=>?_)
   ·have hij:i*s+j<len*s:=by
     have hi':i<len:=by have:=(List.getElem?_eq_some_iff.1 q1).1;omega
     have hj:j<s:=by rw[←k4 (lo+i) e (hdg i e q1)];exact(List.getElem?_eq_some_iff.1 q2).1
     exact zdr hi' hj
    rw[List.getElem?_toArray,holg _ hij,hsh]at q3
    exact k6 (lo+i) j e d c (hdg i e q1) q2 q3
   ·exact k4 (lo+i) e (hdg i e q1)
   ·exact k5 (lo+i) j e d (hdg i e q1) q2
   ·rw[hdl]at hk
    rw[hcur k (by rw[Nat.add_mul];omega),List.getElem?_append_left (by omega),List.getElem?_toArray]
   ·rw[hdl,hcur _ (by rw[Nat.add_mul];omega),List.getElem?_append_right (by omega),hol]
    congr 1;omega
  refine zaC (w':=w') (hexec (by rw[hv,hy];exact r1)) (hn [] (.inr rfl) v' (C.set g (some b') w') (by rw[List.nil_append];exact hst) ?_)
  rw[List.nil_append]
  refine⟨ver+1,false,nw && nf,s,(xs.drop lo).take len++els,Mem.at_cons_same _ _ _,Nat.le_refl _,⟨_,_,_,e1⟩,fun _=>⟨by rw[List.length_append,hdl];simp,?_⟩⟩
  rw[Cf.set_same]
  exact⟨cap',cur,el,(0,0),by rw[List.length_nil,Nat.zero_mul];exact e1,e3,by rw[e6];simp,e4,e5⟩
end
def SAlt (P:Program) (o:Oper) (e:Operand→D) (m:Mem) (F:D→Mem→Prop):Prop :=
 ∀ (C:Cf) (a:Act) (next:Act→World→Prop) (Q:Exit→Act→World→Prop),HoldsM C m→(∀ x,x∈o.op.operands→RdD C m (e x) (a.eval x)) →
  (∀ d wr,F d wr→∀ v C',Step C m C' (wr++m)→RdD C' (wr++m) d v→next (a.put o.dst v) C'.w)→o.wp P a C.w next Q
theorem zpD {α:Type} {f:α→List V} {us bs:List α} {P:Program} {e:Operand→D} {m:Mem} {dst:Option Tmp} {ty:TypeId} {pos:String} {af:Array Edge} {gd:Option (Nat×Bool)} {x y:Operand} {t:TypeId} {g ver lo len s by_ el:Nat} {agg n nw nf:Bool} {zs:List V} {els:List (List V)} [hu:SlcI P t el] [ht:TyI P el agg s by_ zs] [hf:CellsI f s]
  (h1:e x = .own g ver lo len) (hmg:m.at g = .row ver false nw s (us.map f)) (h2:e y = .dat n (.slice els)) (he:els=bs.map f) (hlx:Nat.ble (lo+len) us.length=true) (hne:bs≠[]) (hnf:nf=n∨FlatI f) (hs:Nat.blt 0 s=true)
  (hb:(len+bs.length)*(by_+1)≤140737488355328) :
  SAlt P ⟨dst,.call { callee := .builtin .append,args := #[x,y],argTypes := #[t,t] },ty,pos,af,gd⟩ e m (fun d wr=>∃ pre,(pre=us.take lo∨pre=[])∧d = .own g (ver+1) pre.length (len+bs.length)∧wr=[(g,.row (ver+1) false (nw && nf) s ((pre++(us.drop lo).take len++bs).map f))]):=by
 subst he
 intro C a next Q hm hx hn
 have hs:0<s:=by simpa[Nat.blt_eq]using hs
 have g1:=hx x (by simp[Op.operands,Call.operands]);rw[h1]at g1
 have g2:=hx y (by simp[Op.operands,Call.operands]);rw[h2]at g2
 refine zkS hu ht hm g1 hmg (zgH (s:=s) g2 (fun e he=>(zfU bs e he).1)) (by have:=Nat.le_of_ble_eq_true hlx;simpa using this) (zfU bs) (hnf.imp id (fun h=>zgl (h:=h) bs)) hs (by simpa using hne) (by simpa using hb) (fun pre hp v C' k1 k2=>?_)
 obtain⟨qs,hq,rfl⟩:∃ qs,(qs=us.take lo∨qs=[])∧pre=qs.map f:=by
  rcases hp with rfl|rfl
  ·exact⟨us.take lo,.inl rfl,by rw[List.map_take]⟩
  ·exact⟨[],.inr rfl,rfl⟩
 have em:(qs++(us.drop lo).take len++bs).map f=qs.map f++((us.map f).drop lo).take len++bs.map f:=by rw[List.map_append,List.map_append,List.map_take,List.map_drop]
 refine hn _ _ ⟨qs,hq,rfl,rfl⟩ v C' ?_ ?_
 ·rw[em];exact k1
 ·rw[em]
  rw[List.length_map,List.length_map]at k2
  exact k2
theorem zsi {P:Program} {e:Operand→D} {m:Mem} {dst:Option Tmp} {ty:TypeId} {pos:String} {af:Array Edge} {gd:Option (Nat×Bool)} {x:Operand} {t:TypeId} {lo:Operand} {g ver l0 len s by_ el:Nat} {agg frz nw:Bool} {zs:List V} {xs:List (List V)} [hu:SlcI P t el] [ht:TyI P el agg s by_ zs]
  (h1:e x = .own g ver l0 len) (hmg:m.at g = .row ver frz nw s xs) (hlo:BndD (some (e lo)) 0 1) (hl:1≤len) :
  SAlt P ⟨dst,.slice t x (some lo) none none,ty,pos,af,gd⟩ e m (fun d wr=>∃ l,(l=l0+1∨l=l0∧len=1)∧d = .own g ver l (len-1)∧wr=[]):=by
 intro C a next Q hm hx hn
 have g1:=hx x (by simp[Op.operands]);rw[h1]at g1
 have gl:∀ o,some lo=some o→RdD C m (e o) (a.eval o):=fun o ho=>hx o (by injection ho with ho;subst ho;simp[Op.operands])
 have gh:∀ o,(none:Option Operand)=some o→RdD C m (e o) (a.eval o):=fun o ho=>by cases ho
 have g1':=g1
 obtain⟨ver',frz',nw',sz',xs',hat,_,_,hv0⟩:=g1
 rw[hmg]at hat
 injection hat with e1 e2 e3 e4 e5
 subst e1 e2 e3 e4 e5
 obtain⟨hlen,hv⟩:=hv0 rfl
 have hexec:∀ v,(Instr.slice t (a.eval x) (some (a.eval lo)) none none).run P C.w = .ok v C.w→(execOp a.eval ⟨dst,.slice t x (some lo) none none,ty,pos,af,gd⟩).run P C.w = .ok (.value v) C.w:=fun v hv=>by
  simp[execOp,Instr.sliceAt,zao hu.out,hv]
 cases hio:C.ι g with
 | none =>
  rw[hio]at hv
  obtain⟨_,_,hl2⟩:=hv
  omega
 | some b =>
  rw[hio]at hv
  obtain⟨cap,arr,T,fz,hv,hh,hle2,hlc,hcm⟩:=hv
  have hb:=zei (P:=P) (C:=C) (isS:=true) (cap:=cap) (lo:=some lo) (hi:=none) hlo (.none len) hl hlc gl gh
  simp only[Option.map_some,Option.map_none]at hb
  by_cases hc:cap=1
  ·refine zaC (hexec (.slice (some ⟨b,l0*s,none⟩) (len-1) 0) ?_) (hn _ _ ⟨l0,.inr ⟨rfl,by omega⟩,rfl,rfl⟩ _ C (Step.refl hm) ⟨ver,frz,nw,s,xs,hmg,Nat.le_refl _,⟨_,_,_,rfl⟩,fun _=>⟨by omega,?_⟩⟩)
   ·rw[hv]
    simp only[Instr.slice,Sem.run_bind,zao hu.out,Result.andThen_ok,hb,zaS ht,Sem.run_pure]
    simp[hc]
   ·rw[hio]
    rw[Nat.add_mul]at hle2
    exact⟨0,arr,T,fz,rfl,hh,by rw[Nat.add_zero];omega,by omega,Nat.zero_le _⟩
  ·refine zaC (hexec (.slice (some ⟨b,(l0+1)*s,none⟩) (len-1) (cap-1)) ?_) (hn _ _ ⟨l0+1,.inl rfl,rfl,rfl⟩ _ C (Step.refl hm) ⟨ver,frz,nw,s,xs,hmg,Nat.le_refl _,⟨_,_,_,rfl⟩,fun _=>⟨by omega,?_⟩⟩)
   ·rw[hv]
    simp only[Instr.slice,Sem.run_bind,zao hu.out,Result.andThen_ok,hb,zaS ht,Sem.run_pure]
    rw[if_neg hc];simp[aadd,Nat.add_mul]
   ·rw[hio]
    exact⟨cap-1,arr,T,fz,rfl,hh,by rw[show l0+1+(cap-1)=l0+cap by omega];exact hle2,by omega,by omega⟩
theorem zrr {P:Program} {c:Code} {Q:Exit→St→Prop} {env:Env} {mem:Mem} {n:Nat} (t:Nat) {d:D} (_:env.at t=d) (k:Unit→DW P c Q ⟨env,mem,n⟩):DW P c Q ⟨env,mem,n⟩:=k ()
theorem ziv {P:Program} {ops:Array Oper} {Q:Exit→Act→World→Prop}:∀ (l1 l2:List Oper) (s:St) (tr:List (List Nat×List Nat)) (s':St) (C:Cf) (a:Act),DRun P ops l1 s tr s'→Holds C s a →
  (∀ C' a',Holds C' s' a'→Step C s.mem C' s'.mem→wpList P ops Q l2 a' C'.w)→wpList P ops Q (l1++l2) a C.w
 | [],l2,s,tr,s',C,a,⟨_,hs⟩,h,hQ=>by
  subst hs
  exact hQ C a h (Step.refl h.mem)
 | o::r,l2,s,tr,s',C,a,⟨rd,val,wr,tr',_,hd,hg,hr⟩,h,hQ=>by
  refine wpList_step fun K hK=>?_
  exact ziN (next:=K) (Q:=Q) hg hd h (fun C' a' h' he=>hK _ _ (ziv r l2 _ tr' s' C' a' hr h' (fun C2 a2 h2 e2=>hQ C2 a2 h2 (he.trans e2))))
theorem zdy {P:Program} {Q:Exit→St→Prop} {id:Nat} {l1 l2:List Oper} {o:Oper} {s:St} (hgd:o.guard=none)
  (h:DOps P (l1++o::l2).toArray l1 s [] (fun _ s1=>∃ F,dOK s1 o.dst=true∧SAlt P o (ev s1) s1.mem F∧∀ d wr,F d wr→DOps P (l1++o::l2).toArray l2 (s1.put o.dst d wr) [] (fun _ s'=>Q .normal s'))) :
  DW P (.region id (l1++o::l2).toArray false) Q s:=fun C a hh=>by
 obtain⟨tr,s1,hr,F,hd,hs,hk⟩:=h
 refine wp_region_lit (ziv l1 (o::l2) s tr s1 C a hr hh (fun C1 a1 h1 x1=>?_))
 refine wpList_step fun K hK=>?_
 rw[if_pos (by simp[Region.wanted,hgd])]
 refine hs C1 a1 K _ h1.mem (fun x _=>zjP h1 x) (fun d wr hf v C' hst hv=>?_)
 obtain⟨tr2,s',hr2,hq⟩:=hk d wr hf
 have h2:=zcQ h1 hst hv hd
 exact hK _ _ (zcH l2 _ tr2 s' C' _ hr2 h2 (fun C3 a3 h3 x3=>⟨C3,s',rfl,hq,h3,((x1.trans hst).trans x3).ext⟩))
end Go.Proofs.YtcdhlofhhcgohaaGreat
