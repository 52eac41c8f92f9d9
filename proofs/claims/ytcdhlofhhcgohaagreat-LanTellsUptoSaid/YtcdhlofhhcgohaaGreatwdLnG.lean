/- Contracts: lan.gates, lan.across, lan.Send's bad; slices.Clone of books. -/
import Derived.Test.YtcdhlofhhcgohaaGreatwdBkw
import Derived.Test.YtcdhlofhhcgohaaGreatwdPlP
import Derived.Test.YtcdhlofhhcgohaaGreatwbOwn
import Derived.Test.YtcdhlofhhcgohaaGreatwcSh
import Derived.Test.YtcdhlofhhcgohaaGreatwdBkr
namespace Go.Proofs.YtcdhlofhhcgohaaGreat
open Go.RowKit
def ixZ (p:Int) (l:List Int):Int:=match ixI p l with|some k=>(k:Int)|none => -1
theorem zjp {p:Int}:∀ {l:List Int} {k:Nat},(∀ j,j<k→l[j]? ≠ some p)→l[k]? = some p→ixI p l=some k
 | [],k,_,h=>by simp at h
 | x::r,0,_,h=>by
  simp at h
  unfold ixI
  rw[if_pos h]
 | x::r,k+1,hn,h=>by
  have h0:x≠p:=fun e=>hn 0 (by omega) (by simp[e])
  rw[List.getElem?_cons_succ]at h
  have:=zjp (k:=k) (fun j hj=>by have:=hn (j+1) (by omega);rwa[List.getElem?_cons_succ]at this) h
  unfold ixI
  rw[if_neg h0,this];rfl
theorem zpw {p:Int}:∀ {l:List Int},(∀ j,j<l.length→l[j]? ≠ some p)→ixI p l=none
 | [],_=>rfl
 | x::r,hn=>by
  have h0:x≠p:=fun e=>hn 0 (by simp) (by simp[e])
  have:=zpw (l:=r) (fun j hj=>by have:=hn (j+1) (by simp;omega);rwa[List.getElem?_cons_succ]at this)
  unfold ixI
  rw[if_neg h0,this];rfl
attribute [local irreducible] SStep DW DWin DOps zaG zaE zaJ retQ zaN FnF FnG FnI Wk IntKind.wrap IntKind.andI IntKind.orI IntKind.xorI IntKind.andNotI IntKind.shlI IntKind.shrI zah
theorem slices_Equal (l:List Int):FnF Tryz.prog 93 [.slice (l.map zad),.slice (l.map zad)] (.bool true):=by
 refine zal Tryz.func93 rfl rfl rfl ?_
 simp only[zap]
 refine zbY 0 rfl (fun hlen=>?_)
 have hml:(l.map zad).length=l.length:=by simp
 repeat' (first|refine qU ?_|refine qW ?_|((first|apply dX rfl|apply Da rfl rfl|apply Db rfl rfl qN);(focus ((try intro hg);first|exact qMo));constructor)|refine qP ?_)
 refine zag (fun k:Nat=>⟨[(0,.dat false (.slice (l.map zad))),(1,.dat false (.slice (l.map zad))),(12,.dat true (.int .i64 (l.map zad).length)),(13,.dat true (.int .i64 k))],[],26⟩)
  (fun k=>k≤l.length) (fun k=>l.length-k) 0 (Nat.zero_le _) (Wk_g some rfl rfl kq) (fun k hk=>?_)
 by_cases hlt:k<l.length
 ·have hx:l[(k:Int).toNat]? = some l[k]:=by simp[hlt]
  repeat' (first|refine qU ?_|refine qW ?_|((first|apply dX rfl|apply Da rfl rfl|apply Db rfl rfl qN);(focus ((try intro hg);first|exact zaf rfl rfl (by omega) hx|exact qMo));constructor)|refine qP ?_)
  exact zaa (k+1) hlt (by omega) (Wk_g some rfl rfl kq)
 ·repeat' (first|refine qU ?_|refine qW ?_|((first|apply dX rfl|apply Da rfl rfl|apply Db rfl rfl qN);(focus ((try intro hg);first|exact qMo));constructor)|refine qP ?_)
  refine ret1 rfl qF ?_
  rfl
theorem slices_Index (l:List Int) (p:Int):FnF Tryz.prog 50 [.slice (l.map zad),.int .i64 p] (.int .i64 (ixZ p l)):=by
 refine zal Tryz.func50 rfl rfl rfl ?_
 simp only[zap]
 refine zbY 0 rfl (fun hlen=>?_)
 have hml:(l.map zad).length=l.length:=by simp
 repeat' (first|refine qU ?_|refine qW ?_|((first|apply dX rfl|apply Da rfl rfl|apply Db rfl rfl qN);(focus ((try intro hg);first|exact qMo));constructor)|refine qP ?_)
 refine zag (fun k:Nat=>⟨[(0,.dat false (.slice (l.map zad))),(1,.dat false (.int .i64 p)),(7,.dat true (.int .i64 (l.map zad).length)),(8,.dat true (.int .i64 k))],[],19⟩)
  (fun k=>k≤l.length∧∀ j,j<k→l[j]? ≠ some p) (fun k=>l.length-k) 0 ⟨Nat.zero_le _,fun j hj=>by omega⟩ (Wk_g some rfl rfl kq) (fun k hR=>?_)
 obtain⟨hk,hno⟩:=hR
 by_cases hlt:k<l.length
 ·have hx:l[(k:Int).toNat]? = some l[k]:=by simp[hlt]
  have hx':l[k]? = some l[k]:=by simp[hlt]
  generalize l[k]=y at hx hx'
  by_cases he:p=y
  ·subst he
   have hix:=zjp hno hx'
   repeat' (first|refine qU ?_|refine qW ?_|((first|apply dX rfl|apply Da rfl rfl|apply Db rfl rfl qN);(focus ((try intro hg);first|exact zaf rfl rfl (by omega) hx|exact qMo));constructor)|refine qP ?_)
   refine ret1 rfl qF ?_
   unfold ixZ;rw[hix]
  ·repeat' (first|refine qU ?_|refine qW ?_|((first|apply dX rfl|apply Da rfl rfl|apply Db rfl rfl qN);(focus ((try intro hg);first|exact zaf rfl rfl (by omega) hx|exact qMo));constructor)|refine qP ?_)
   exact zaa (k+1) ⟨hlt,fun j hj e=>by
    by_cases h1:j=k
    ·rw[h1,hx']at e;injection e with e;exact he e.symm
    ·exact hno j (by omega) e⟩ (by omega) (Wk_g some rfl rfl kq)
 ·have hix:=zpw (p:=p) (l:=l) (fun j hj=>hno j (by omega))
  repeat' (first|refine qU ?_|refine qW ?_|((first|apply dX rfl|apply Da rfl rfl|apply Db rfl rfl qN);(focus ((try intro hg);first|exact qMo));constructor)|refine qP ?_)
  refine ret1 rfl qF ?_
  unfold ixZ;rw[hix]
theorem zlR (n:Net):FnF Tryz.prog 51 [.rp n.cells,.rp [.slice (([]:List (List Mind)).map zae)]] (.bool false):=by
 refine zal Tryz.func51 rfl rfl rfl ?_
 simp only[zap]
 repeat' (first|refine qU ?_|refine qW ?_|((first|apply dX rfl|apply Da rfl rfl|apply Db rfl rfl qN);(focus ((try intro hg);first|exact qMo));constructor)|refine qP ?_)
 refine ret1 rfl qF ?_
 rfl
set_option maxHeartbeats 4000000 in
theorem zfH (n:Net) (h:n.good) (t:List (List Mind)) (ht:goodT n t) (h1:1≤t.length):FnF Tryz.prog 51 [.rp n.cells,.rp [.slice (t.map zae)]] (.bool true):=by
 refine zal Tryz.func51 rfl rfl rfl ?_
 simp only[zap]
 have hmt:(t.map zae).length=t.length:=by simp
 have hmb:(n.bridges.map zaj).length=n.bridges.length:=by simp
 have hnb:=h.nb
 have htl:=ht.l
 repeat' (first|refine qU ?_|refine qW ?_|((first|apply dX rfl|apply Da rfl rfl|apply Db rfl rfl qN);(focus ((try intro hg);first|exact qMo));constructor)|refine qP ?_)
 refine zag (fun k:Nat=>⟨[(0,.dat false (.rp n.cells)),(26,.dat false (.slice (t.map zae))),(27,.dat true (.int .i64 (t.map zae).length)),(28,.dat true (.int .i64 k))],[],85⟩)
  (fun k=>k≤t.length) (fun k=>t.length-k) 0 (Nat.zero_le _) (Wk_g some rfl rfl kq) (fun k hk=>?_)
 by_cases hlt:k<t.length
 ·have hx:t[(k:Int).toNat]? = some t[k]:=by simp[hlt]
  obtain⟨hl,hm⟩:=ht.m t[k] (List.getElem_mem hlt)
  generalize t[k]=l at hx hl hm
  have hml:(l.map Mind.cells).length=l.length:=by simp
  repeat' (first|refine qU ?_|refine qW ?_|((first|apply dX rfl|apply Da rfl rfl|apply Db rfl rfl qN);(focus ((try intro hg);first|exact zaf rfl rfl (by omega) hx|exact qMo));constructor)|refine qP ?_)
  refine zag (fun j:Nat=>⟨[(0,.dat false (.rp n.cells)),(26,.dat false (.slice (t.map zae))),(27,.dat true (.int .i64 (t.map zae).length)),(28,.dat true (.int .i64 k)),(6,.dat false (.slice (l.map Mind.cells))),(41,.dat true (.int .i64 (l.map Mind.cells).length)),(42,.dat true (.int .i64 j))],[],85⟩)
   (fun j=>j≤l.length) (fun j=>l.length-j) 0 (Nat.zero_le _) (Wk_g some rfl rfl kq) (fun j hj=>?_)
  by_cases hlj:j<l.length
  ·have hy:l[(j:Int).toNat]? = some l[j]:=by simp[hlj]
   have hgm:=hm j l[j] (by simp[hlj])
   generalize l[j]=m at hy hgm
   have hpo:=zen n h.nl j
   rw[←hgm.p]at hpo
   have heq:=slices_Equal m.ports
   have e1:m.roles.length=m.ports.length:=by rw[hgm.r,hgm.p]
   have e2:m.calm.length=m.ports.length:=by rw[hgm.c,hgm.p]
   have m1:(m.ports.map zad).length=m.ports.length:=by simp
   have m2:(m.roles.map zad).length=m.ports.length:=by simp[e1]
   have m3:(m.calm.map zad).length=m.ports.length:=by simp[e2]
   repeat' (first|refine qU ?_|refine qW ?_|((first|apply dX rfl|apply Da rfl rfl|apply Db rfl rfl qN);(focus ((try intro hg);first|exact zaf rfl rfl (by omega) hx|exact zaf rfl rfl (by omega) hy|exact zac hpo rfl|exact zac heq rfl|exact qMo));constructor)|refine qP ?_)
   exact zaa (j+1) hlj (by omega) (Wk_g some rfl rfl kq)
  ·repeat' (first|refine qU ?_|refine qW ?_|((first|apply dX rfl|apply Da rfl rfl|apply Db rfl rfl qN);(focus ((try intro hg);first|exact qMo));constructor)|refine qP ?_)
   exact zaa (k+1) hlt (by omega) (Wk_g some rfl rfl kq)
 ·repeat' (first|refine qU ?_|refine qW ?_|((first|apply dX rfl|apply Da rfl rfl|apply Db rfl rfl qN);(focus ((try intro hg);first|exact qMo));constructor)|refine qP ?_)
  refine ret1 rfl qF ?_
  rfl
set_option maxHeartbeats 4000000 in
theorem zir (n:Net) (h:n.good) (t:List (List Mind)) (ht:goodT n t) (tree bridge port:Int):FnF Tryz.prog 18 [zaO t,.int .i64 tree,.int .i64 bridge,.int .i64 port] (.bool (zdh t tree bridge port)):=by
 refine zal Tryz.func18 rfl rfl rfl ?_
 simp only[zap,zaO]
 have hmt:(t.map zae).length=t.length:=by simp
 have hnb:=h.nb
 have htl:=ht.l
 unfold zdh
 by_cases c1:tree<0
 ·rw[if_pos (.inl c1)]
  repeat' (first|refine qU ?_|refine qW ?_|((first|apply dX rfl|apply Da rfl rfl|apply Db rfl rfl qN);(focus ((try intro hg);first|exact qMo));constructor)|refine qP ?_)
  refine ret1 rfl qF ?_
  rfl
 by_cases c2:(t.length:Int)≤tree
 ·rw[if_pos (.inr (.inl c2))]
  repeat' (first|refine qU ?_|refine qW ?_|((first|apply dX rfl|apply Da rfl rfl|apply Db rfl rfl qN);(focus ((try intro hg);first|exact qMo));constructor)|refine qP ?_)
  refine ret1 rfl qF ?_
  rfl
 by_cases c3:bridge<0
 ·rw[if_pos (.inr (.inr c3))]
  repeat' (first|refine qU ?_|refine qW ?_|((first|apply dX rfl|apply Da rfl rfl|apply Db rfl rfl qN);(focus ((try intro hg);first|exact qMo));constructor)|refine qP ?_)
  refine ret1 rfl qF ?_
  rfl
 rw[if_neg (by omega)]
 have hxl:tree.toNat<t.length:=by omega
 have hx:t[tree.toNat]? = some t[tree.toNat]:=by simp[hxl]
 obtain⟨hl,hm⟩:=ht.m t[tree.toNat] (List.getElem_mem hxl)
 rw[hx,Option.getD_some]
 generalize t[tree.toNat]=l at hx hl hm
 have hml:(l.map Mind.cells).length=l.length:=by simp
 dsimp only
 by_cases c4:(l.length:Int)≤bridge
 ·rw[if_pos c4]
  repeat' (first|refine qU ?_|refine qW ?_|((first|apply dX rfl|apply Da rfl rfl|apply Db rfl rfl qN);(focus ((try intro hg);first|exact zaf rfl rfl (by omega) hx|exact qMo));constructor)|refine qP ?_)
  refine ret1 rfl qF ?_
  rfl
 rw[if_neg c4]
 have hyl:bridge.toNat<l.length:=by omega
 have hy:l[bridge.toNat]? = some (mAt l bridge.toNat):=zpf hyl
 have hgm:=hm bridge.toNat _ hy
 generalize mAt l bridge.toNat=m at hy hgm
 have hix:=slices_Index m.ports port
 have e2:m.calm.length=m.ports.length:=by rw[hgm.c,hgm.p]
 have m3:(m.calm.map zad).length=m.calm.length:=by simp
 unfold zpi
 unfold ixZ at hix
 cases hq:ixI port m.ports with
 | none =>
  rw[hq]at hix
  dsimp only at hix ⊢
  repeat' (first|refine qU ?_|refine qW ?_|((first|apply dX rfl|apply Da rfl rfl|apply Db rfl rfl qN);(focus ((try intro hg);first|exact zaf rfl rfl (by omega) hx|exact zaf rfl rfl (by omega) hy|exact zac hix rfl|exact qMo));constructor)|refine qP ?_)
  refine ret1 rfl qF ?_
  rfl
 | some k =>
  rw[hq]at hix
  dsimp only at hix ⊢
  have hk:=(List.getElem?_eq_some_iff.1 (zmI hq)).1
  have hkc:k<m.calm.length:=by omega
  have hz:m.calm[(k:Int).toNat]? = some m.calm[k]:=by simp[hkc]
  have hc:cAt m k=m.calm[k]:=by unfold cAt;simp[hkc]
  rw[hc,decide_eq_true hkc,Bool.true_and]
  generalize m.calm[k]=c at hz ⊢
  repeat' (first|refine qU ?_|refine qW ?_|((first|apply dX rfl|apply Da rfl rfl|apply Db rfl rfl qN);(focus ((try intro hg);first|exact zaf rfl rfl (by omega) hx|exact zaf rfl rfl (by omega) hy|exact zac hix rfl|exact zaf rfl rfl (by omega) hz|exact qMo));constructor)|refine qP ?_)
  refine ret1 rfl qF ?_
  rfl
end Go.Proofs.YtcdhlofhhcgohaaGreat
namespace Go.Proofs.YtcdhlofhhcgohaaGreat
open Go.RowKit
def zbM : List Bool→List V→List D
 | b::r,x::s=>.dat b x::zbM r s
 | _,_=>[]
def zfh (m:Mem):List Bool→List D→List V→Prop
 | true::r,d::s,x::t=>(∃ n,asV m d=some (n,x))∧zfh m r s t
 | false::r,_::s,_::t=>zfh m r s t
 | [],[],[]=>True
 | _,_,_=>False
theorem zhf : ∀ {fl:List Bool} {xs:List V},fl.length=xs.length→(zbM fl xs).length=xs.length
 | [],[],_=>rfl
 | b::r,x::s,h=>by
  show(zbM r s).length+1=s.length+1
  rw[zhf (by simpa using h)]
 | [],_::_,h=>by simp at h
 | _::_,[],h=>by simp at h
theorem zhg : ∀ {fl:List Bool} {xs:List V} {j:Nat} {d:D},(zbM fl xs)[j]? = some d→∃ b x,fl[j]? = some b∧xs[j]? = some x∧d = .dat b x
 | [],[],j,d,h=>by simp[zbM]at h
 | [],_::_,j,d,h=>by simp[zbM]at h
 | _::_,[],j,d,h=>by simp[zbM]at h
 | b::r,x::s,0,d,h=>by
  simp[zbM]at h
  exact⟨b,x,rfl,rfl,h.symm⟩
 | b::r,x::s,j+1,d,h=>by
  simp only[zbM,List.getElem?_cons_succ]at h
  obtain⟨b',x',h1,h2,h3⟩:=zhg h
  exact⟨b',x',by rw[List.getElem?_cons_succ];exact h1,by rw[List.getElem?_cons_succ];exact h2,h3⟩
theorem zeo {m:Mem}:∀ {fl:List Bool} {ds:List D} {xs:List V},zfh m fl ds xs→fl.length=xs.length
 | [],[],[],_=>rfl
 | true::r,d::s,x::t,h=>by simp[zeo h.2]
 | false::r,d::s,x::t,h=>by simp[zeo (m:=m) (show zfh m r s t from h)]
 | [],_::_,_,h=>h.elim
 | [],[],_::_,h=>h.elim
 | true::_,[],_,h=>by cases h
 | false::_,[],_,h=>by cases h
 | true::_,_::_,[],h=>by cases h
 | false::_,_::_,[],h=>by cases h
theorem zfI {m:Mem}:∀ {fl:List Bool} {ds:List D} {xs:List V},zfh m fl ds xs→∀ {j:Nat} {d:D} {x:V},fl[j]? = some true→ds[j]? = some d→xs[j]? = some x→∃ n,asV m d=some (n,x)
 | [],[],[],_,j,d,x,h,_,_=>by simp at h
 | true::r,d0::s,x0::t,h,0,d,x,h1,h2,h3=>by
  simp at h2 h3
  subst h2;subst h3
  exact h.1
 | true::r,d0::s,x0::t,h,j+1,d,x,h1,h2,h3=>by
  rw[List.getElem?_cons_succ]at h1 h2 h3
  exact zfI h.2 h1 h2 h3
 | false::r,d0::s,x0::t,h,0,d,x,h1,h2,h3=>by simp at h1
 | false::r,d0::s,x0::t,h,j+1,d,x,h1,h2,h3=>by
  rw[List.getElem?_cons_succ]at h1 h2 h3
  exact zfI (m:=m) (show zfh m r s t from h) h1 h2 h3
 | [],_::_,_,h,_,_,_,_,_,_=>h.elim
 | [],[],_::_,h,_,_,_,_,_,_=>h.elim
 | true::_,[],_,h,_,_,_,_,_,_=>by cases h
 | false::_,[],_,h,_,_,_,_,_,_=>by cases h
 | true::_,_::_,[],h,_,_,_,_,_,_=>by cases h
 | false::_,_::_,[],h,_,_,_,_,_,_=>by cases h
def zeV (m:Mem):List Bool→List D→List V→Prop
 | true::r,d::s,x::t=>asV m d=some (true,x)∧zeV m r s t
 | false::r,_::s,_::t=>zeV m r s t
 | [],[],[]=>True
 | _,_,_=>False
theorem zfJ {m:Mem}:∀ {fl:List Bool} {ds:List D} {xs:List V},zeV m fl ds xs→zfh m fl ds xs
 | [],[],[],_=>trivial
 | true::r,d::s,x::t,h=>⟨⟨true,h.1⟩,zfJ h.2⟩
 | false::r,d::s,x::t,h=>zfJ (m:=m) (fl:=r) (ds:=s) (xs:=t) h
 | [],_::_,_,h=>h.elim
 | [],[],_::_,h=>h.elim
 | true::_,[],_,h=>by cases h
 | false::_,[],_,h=>by cases h
 | true::_,_::_,[],h=>by cases h
 | false::_,_::_,[],h=>by cases h
theorem zeW {m:Mem}:∀ {fl:List Bool} {ds:List D} {xs:List V},zeV m fl ds xs→∀ {j:Nat} {d:D} {x:V},fl[j]? = some true→ds[j]? = some d→xs[j]? = some x→asV m d=some (true,x)
 | [],[],[],_,j,d,x,h,_,_=>by simp at h
 | true::r,d0::s,x0::t,h,0,d,x,h1,h2,h3=>by
  simp at h2 h3
  subst h2;subst h3
  exact h.1
 | true::r,d0::s,x0::t,h,j+1,d,x,h1,h2,h3=>by
  rw[List.getElem?_cons_succ]at h1 h2 h3
  exact zeW h.2 h1 h2 h3
 | false::r,d0::s,x0::t,h,0,d,x,h1,h2,h3=>by simp at h1
 | false::r,d0::s,x0::t,h,j+1,d,x,h1,h2,h3=>by
  rw[List.getElem?_cons_succ]at h1 h2 h3
  exact zeW (m:=m) (show zeV m r s t from h) h1 h2 h3
 | [],_::_,_,h,_,_,_,_,_,_=>h.elim
 | [],[],_::_,h,_,_,_,_,_,_=>h.elim
 | true::_,[],_,h,_,_,_,_,_,_=>by cases h
 | false::_,[],_,h,_,_,_,_,_,_=>by cases h
 | true::_,_::_,[],h,_,_,_,_,_,_=>by cases h
 | false::_,_::_,[],h,_,_,_,_,_,_=>by cases h
section
variable {P : Program} {e : Operand → D} {m : Mem} {dst : Option Tmp} {ty : TypeId} {pos : String} {af : Array Edge} {gd : Option (Nat × Bool)}
theorem zrn {f:FuncId} {fl:List Bool} {ds:List V} {es:List D} {r:V} (hc:FnG P f (zbM fl ds) [] (.dat true r) []) {C:Cf} {m':Mem} {vs:Array Value} (hm:HoldsM C m') (hl:vs.size=es.length) (hv:∀ (j:Nat) d v,es[j]? = some d→vs[j]? = some v→RdD C m' d v)
  (ha:asBL m' es=some ds) (hk:zfh m' fl es ds):Calls P f vs C.w fun e' w'=>∃ v C',e' = .returned v∧C'.w=w'∧Step C m' C' m'∧RdD C' m' (.dat false r) v:=by
 obtain⟨hlen,hall⟩:=ziQ hm es ds ha
 have hfl:=zeo hk
 have gone:∀ g,Mem.at ([]:Mem) g = .gone:=fun _=>rfl
 let C0:Cf:=⟨fun _=>none,C.lent m',C.S,C.w⟩
 have hsd:∀ b,C.lent m' b→b<C.w.heap.size:=by
  rintro b (hb|⟨g,h1,h2⟩)
  ·exact hm.sdom b hb
  ·exact BoxOK.lt hm h1 h2
 have h0:HoldsM C0 []:=⟨fun g=>trivial,fun g g' b (h:Box.gone≠Box.gone)=>absurd rfl h,fun g b (h:false=true)=>by(cases h),hsd,fun b hb=>.inl hb⟩
 have hargs:∀ (j:Nat) d v,(zbM fl ds)[j]? = some d→vs[j]? = some v→RdD C0 [] d v:=fun j d v hd hvj=>by
  obtain⟨b,x,h1,h2,rfl⟩:=zhg hd
  have hj:j<es.length:=by have:=(List.getElem?_eq_some_iff.1 h2).1;omega
  have hes:es[j]? = some es[j]:=List.getElem?_eq_getElem hj
  have hr:=hv j _ v hes hvj
  cases b with
  | false=>exact hall j _ x v hes h2 hr
  | true =>
   obtain⟨n,hn⟩:=zfI hk h1 hes h2
   have:=(zcF hm (fun _ _=>rfl) hn hr).weak hm
   exact this
 refine(hc.2 C0 vs h0 (by rw[zhf hfl];omega) hargs).mono ?_
 rintro e' w' ⟨v,C',rfl,rfl,hx,hh,hr⟩
 have hnm:∀ g,(Mem.at ([]:Mem) g).mut=true→False:=fun g hg=>by rw[gone]at hg;cases hg
 have hg:Grew C.w C'.w:=⟨hx.os,hx.tape,hx.output,hx.size,fun k hk=>hx.keep k hk (fun g hg=>(hnm g hg).elim)⟩
 have hst:=zc9 (newB C.w C'.w) hm hg (fun k hk=>hk)
 refine⟨v,C.put (newB C.w C'.w) C'.w,rfl,rfl,hst,?_⟩
 have hr:Rd C'.N C'.w r v:=hr
 show Rd (fun k=>C.S k∨newB C.w C'.w k) C'.w r v
 refine Rd.mono hr (fun b hb=>?_) (fun _ _=>rfl)
 rcases hx.supN b hb with h1|h1|⟨g0,h1,_⟩
 ·exact .inl h1
 ·exact .inr ⟨h1,hh.sdom b (hh.ns b hb)⟩
 ·exact(hnm g0 h1).elim
theorem zeb {f:FuncId} {args:Array Operand} {ats:Array TypeId} {ds:List V} {r:V} (fl:List Bool) (hc:FnG P f (zbM fl ds) [] (.dat true r) []) (ha:∀ m':Mem,(∀ g,g∈(args.toList.map e).flatMap (refs m)→m'.at g=m.at g)→asBL m' (args.toList.map e)=some ds∧zfh m' fl (args.toList.map e) ds) :
  SStep P ⟨dst,.call { callee := .value (.func f),args:=args,argTypes:=ats },ty,pos,af,gd⟩ e m ((args.toList.map e).flatMap (refs m)) (.dat false r) []:=by
 intro C m' a next Q hag hm hx hn
 obtain⟨ha1,ha2⟩:=ha m' (fun g hg=>hag g (.inl hg))
 have hrun:(execOp a.eval ⟨dst,.call { callee := .value (.func f),args:=args,argTypes:=ats },ty,pos,af,gd⟩).run P C.w = .ok (.enter f (args.map a.eval)) C.w:=by
  have hev:a.eval (.func f) = .func (.func f) #[] #[]:=rfl
  simp only[execOp,resolve,hev,Deferred.ofValue,Sem.run_bind,Sem.run_pure,Result.andThen_ok,invoke,za6 hc.1]
  simp
 unfold Oper.wp
 rw[hrun]
 show Calls P f (args.map a.eval) C.w _
 refine(zrn hc hm (by simp) (fun j d v hd hv=>?_) ha1 ha2).mono ?_
 ·simp only[List.getElem?_map,Option.map_eq_some_iff]at hd
  obtain⟨y,hy,rfl⟩:=hd
  simp only[Array.getElem?_map,Option.map_eq_some_iff]at hv
  obtain⟨y',hy',rfl⟩:=hv
  have:y=y':=by
   rw[Array.getElem?_toList]at hy
   rw[hy]at hy'
   injection hy'
  subst this
  exact hx y (by simp only[Op.operands,Call.operands];exact Array.mem_append.2 (.inr (Array.mem_of_getElem? hy')))
 ·rintro e' w' ⟨v,C',rfl,rfl,h1,h2⟩
  exact hn v C' h1 h2
theorem zro {f:FuncId} {fl:List Bool} {ds:List V} {es:List D} {r:V} (hc:FnG P f (zbM fl ds) [] (.dat true r) []) {C:Cf} {m':Mem} {vs:Array Value} (hm:HoldsM C m') (hl:vs.size=es.length) (hv:∀ (j:Nat) d v,es[j]? = some d→vs[j]? = some v→RdD C m' d v)
  (ha:asBL m' es=some ds) (hk:zeV m' fl es ds):Calls P f vs C.w fun e' w'=>∃ v C',e' = .returned v∧C'.w=w'∧Step C m' C' m'∧RdD C' m' (.dat true r) v:=by
 obtain⟨hlen,hall⟩:=ziQ hm es ds ha
 have hfl:=zeo (zfJ hk)
 have gone:∀ g,Mem.at ([]:Mem) g = .gone:=fun _=>rfl
 let C0:Cf:=⟨fun _=>none,C.lent m',C.N,C.w⟩
 have hsd:∀ b,C.lent m' b→b<C.w.heap.size:=by
  rintro b (hb|⟨g,h1,h2⟩)
  ·exact hm.sdom b hb
  ·exact BoxOK.lt hm h1 h2
 have h0:HoldsM C0 []:=⟨fun g=>trivial,fun g g' b (h:Box.gone≠Box.gone)=>absurd rfl h,fun g b (h:false=true)=>by(cases h),hsd,fun b hb=>.inl (hm.ns b hb)⟩
 have hargs:∀ (j:Nat) d v,(zbM fl ds)[j]? = some d→vs[j]? = some v→RdD C0 [] d v:=fun j d v hd hvj=>by
  obtain⟨b,x,h1,h2,rfl⟩:=zhg hd
  have hj:j<es.length:=by have:=(List.getElem?_eq_some_iff.1 h2).1;omega
  have hes:es[j]? = some es[j]:=List.getElem?_eq_getElem hj
  have hr:=hv j _ v hes hvj
  cases b with
  | false=>exact hall j _ x v hes h2 hr
  | true =>
   have:=zcF hm (fun _ _=>rfl) (zeW hk h1 hes h2) hr
   exact this
 refine(hc.2 C0 vs h0 (by rw[zhf hfl];omega) hargs).mono ?_
 rintro e' w' ⟨v,C',rfl,rfl,hx,hh,hr⟩
 have hnm:∀ g,(Mem.at ([]:Mem) g).mut=true→False:=fun g hg=>by rw[gone]at hg;cases hg
 have hg:Grew C.w C'.w:=⟨hx.os,hx.tape,hx.output,hx.size,fun k hk=>hx.keep k hk (fun g hg=>(hnm g hg).elim)⟩
 have hst:=zc9 (newB C.w C'.w) hm hg (fun k hk=>hk)
 refine⟨v,C.put (newB C.w C'.w) C'.w,rfl,rfl,hst,?_⟩
 have hr:Rd C'.N C'.w r v:=hr
 show Rd (fun k=>C.N k∨newB C.w C'.w k) C'.w r v
 refine Rd.mono hr (fun b hb=>?_) (fun _ _=>rfl)
 rcases hx.supN b hb with h1|h1|⟨g0,h1,_⟩
 ·exact .inl h1
 ·exact .inr ⟨h1,hh.sdom b (hh.ns b hb)⟩
 ·exact(hnm g0 h1).elim
theorem zjq {f:FuncId} {args:Array Operand} {ats:Array TypeId} {ds:List V} {r:V} (fl:List Bool) (hc:FnG P f (zbM fl ds) [] (.dat true r) []) (ha:∀ m':Mem,(∀ g,g∈(args.toList.map e).flatMap (refs m)→m'.at g=m.at g)→asBL m' (args.toList.map e)=some ds∧zeV m' fl (args.toList.map e) ds) :
  SStep P ⟨dst,.call { callee := .value (.func f),args:=args,argTypes:=ats },ty,pos,af,gd⟩ e m ((args.toList.map e).flatMap (refs m)) (.dat true r) []:=by
 intro C m' a next Q hag hm hx hn
 obtain⟨ha1,ha2⟩:=ha m' (fun g hg=>hag g (.inl hg))
 have hrun:(execOp a.eval ⟨dst,.call { callee := .value (.func f),args:=args,argTypes:=ats },ty,pos,af,gd⟩).run P C.w = .ok (.enter f (args.map a.eval)) C.w:=by
  have hev:a.eval (.func f) = .func (.func f) #[] #[]:=rfl
  simp only[execOp,resolve,hev,Deferred.ofValue,Sem.run_bind,Sem.run_pure,Result.andThen_ok,invoke,za6 hc.1]
  simp
 unfold Oper.wp
 rw[hrun]
 show Calls P f (args.map a.eval) C.w _
 refine(zro hc hm (by simp) (fun j d v hd hv=>?_) ha1 ha2).mono ?_
 ·simp only[List.getElem?_map,Option.map_eq_some_iff]at hd
  obtain⟨y,hy,rfl⟩:=hd
  simp only[Array.getElem?_map,Option.map_eq_some_iff]at hv
  obtain⟨y',hy',rfl⟩:=hv
  have:y=y':=by
   rw[Array.getElem?_toList]at hy
   rw[hy]at hy'
   injection hy'
  subst this
  exact hx y (by simp only[Op.operands,Call.operands];exact Array.mem_append.2 (.inr (Array.mem_of_getElem? hy')))
 ·rintro e' w' ⟨v,C',rfl,rfl,h1,h2⟩
  exact hn v C' h1 h2
end
end Go.Proofs.YtcdhlofhhcgohaaGreat
namespace Go.Proofs.YtcdhlofhhcgohaaGreat
open Go.RowKit
theorem zf0 {t:List (List Mind)} {b port:Int} {k:Nat} (h:k<t.length):(zaV t b port).take (k+1)=(zaV t b port).take k++[decide (port=0) || zdh t k b port]:=by
 have:(zaV t b port)[k]? = some (decide (port=0) || zdh t k b port):=by unfold zaV;simp[h]
 rw[List.take_add_one,this];rfl
theorem znJ {n:Net} {t:List (List Mind)} {b vid:Int} {k:Nat} {p:Int} (h:(zah n.links b)[k]? = some p):((zah n.links b).take (k+1)).map (zbm t b vid)=((zah n.links b).take k).map (zbm t b vid)++[zbm t b vid p]:=by
 rw[List.take_add_one,h,List.map_append];rfl
theorem zpx {n:Net} (h:n.good) {b p:Int} (hp:p∈zah n.links b):1≤p∧p≤30:=by
 have hp:=(List.mergeSort_perm _ _).mem_iff.1 (show p∈(n.links.flatMap (zd1 b)).mergeSort _ from hp)
 obtain⟨l,hl,hp⟩:=List.mem_flatMap.1 hp
 have hk:=h.lk l hl
 have:=hk.pa
 have:=hk.pb
 unfold zd1 at hp
 rcases List.mem_append.1 hp with hp|hp
 ·split at hp
  ·simp only[List.mem_singleton]at hp;omega
  ·cases hp
 ·split at hp
  ·simp only[List.mem_singleton]at hp;omega
  ·cases hp
theorem zjr {n:Net} (h:n.good) (b:Int):(zah n.links b).length≤80:=by
 have:=zbz n.links b
 have:=h.nl
 rw[zaW];unfold zcj;rw[List.length_mergeSort];omega
section
variable {P : Program} {e : Operand → D} {m : Mem} {dst : Option Tmp} {ty : TypeId} {pos : String} {af : Array Edge} {gd : Option (Nat × Bool)} {x : Operand} {t : TypeId}
theorem zlS {n:Bool} {cs:List V} {r:V} {sd:TypeDesc} (hu:P.underlying t=some sd) (ha:zcD sd=false) (h:e x = .dat n (.rp cs)) (hr:cs[0]? = some r):SStep P ⟨dst,.load t x,ty,pos,af,gd⟩ e m [] (.dat n r) [] :=
 .pure fun C m' ac _ _ hx=>by
  have g1:=hx x (by simp[Op.operands]);rw[h]at g1
  generalize hv:ac.eval x=v at g1
  cases g1 with
  | rp _ b off cell h1 hS hw hrd =>
   have:=hw 0 r hr
   refine⟨cell 0,?_,hrd 0 r hr⟩
   have hag:(isAgg t).run P C.w = .ok false C.w:=by
    simp only[isAgg,Sem.run_bind,zao hu,Result.andThen_ok]
    rw[←ha]
    cases sd<;>rfl
   have hld:(loadVar t ⟨b,off,none⟩).run P C.w = .ok (cell 0) C.w:=by
    simp only[loadVar,Sem.run_bind,hag,Result.andThen_ok,Bool.false_eq_true,if_false,run_load,show C.w.cell? ⟨b,off,none⟩=some (cell 0) by simpa using this]
   simp only[execOp,hv,Instr.loadAt,Instr.sureAddr,Sem.run_bind,Sem.run_pure,Result.andThen_ok,hld]
end
attribute [local irreducible] SStep DW DWin DOps zaG zaE zaJ retQ zaN FnF FnG FnI Wk IntKind.wrap IntKind.andI IntKind.orI IntKind.xorI IntKind.andNotI IntKind.shlI IntKind.shrI zdh zaV zah
theorem zlT (l:List (List Ent)) (hl:l.length≤1048576):FnG Tryz.prog 64 [.dat false (.slice (l.map za8))] [] (.own 1000 0 0 l.length) [(1000,.row 0 false false 1 (l.map za8))]:=by
 refine zbj Tryz.func64 rfl rfl rfl ?_
 simp only[envD]
 repeat' (first|refine zct rfl rfl rfl (fun h0=>?_) ?_|(apply dt rfl;case h=>exact zb8 (els := []) _ rfl rfl rfl rfl rfl)|refine qU ?_|((first|apply dX rfl|apply Da rfl rfl|apply Db rfl rfl qN);(focus ((try intro hg);first|exact zan (f:=za8) (us := []) (bs:=l) rfl rfl (.dat _ _) rfl rfl (.inl rfl) rfl (by simp only[List.length_nil];omega)|exact qM));constructor)|refine qP ?_)
 ·have hl0:l=[]:=List.map_eq_nil_iff.1 h0
  subst hl0
  exact gOwn (Wk_g (fun g=>none) rfl rfl kq)
 ·exact gOwn (Wk_g (fun g=>if g=1000 then some 5 else none) rfl rfl kq)
theorem zlU (l:List Ent) (hl:l.length≤1048576):FnF Tryz.prog 65 [.slice (l.map entV)] (.slice (l.map entV)):=by
 refine zal Tryz.func65 rfl rfl rfl ?_
 simp only[zap]
 repeat' (first|refine zct rfl rfl rfl (fun h0=>?_) ?_|(apply dt rfl;case h=>exact zb8 (els := []) _ rfl rfl rfl rfl rfl)|refine zaR 2 rfl rfl (by simp) ?_|refine qU ?_|((first|apply dX rfl|apply Da rfl rfl|apply Db rfl rfl qN);(focus ((try intro hg);first|exact zan (f:=entV) (us := []) (bs:=l) rfl rfl (.dat _ _) rfl rfl (.inr ⟨rfl,inferInstance⟩) rfl (by simp only[List.length_nil];omega)|exact qM));constructor)|refine qP ?_)
 ·have hl0:l=[]:=List.map_eq_nil_iff.1 h0
  subst hl0
  exact ret1 rfl (.inl rfl) rfl
 ·exact ret1 rfl (.inl rfl) rfl
theorem zdM (e:Int):FnF Tryz.prog 61 [.int .i64 e] (zbU e).v:=by
 refine zal Tryz.func61 rfl rfl rfl ?_
 simp only[zap]
 repeat' (first|refine qU ?_|((first|apply dX rfl|apply Da rfl rfl|apply Db rfl rfl qN);(focus ((try intro hg);first|exact qM));constructor)|refine qP ?_)
 refine retN (.tmp rfl qF (.tmp rfl qF (.tmp rfl qF (.cellA inferInstance rfl rfl rfl rfl qF .nil)))) ?_
 rfl
set_option maxRecDepth 4000 in
set_option maxHeartbeats 8000000 in
theorem zpy (n:Net) (h:n.good) (t:List (List Mind)) (ht:goodT n t) (b port:Int):FnF Tryz.prog 121 [.int .i64 port,.rp [.rp [.slice (t.map zae)]],.rp [.int .i64 b]] (.slice ((zaV t b port).map zbA)):=by
 refine zal Tryz.func121 rfl rfl rfl ?_
 simp only[zap]
 have hmt:(t.map zae).length=t.length:=by simp
 have htl:=ht.l
 have hol:(zaV t b port).length=t.length:=by with_unfolding_all simp[zaV]
 repeat' (first|refine qU ?_|refine qW ?_|((first|apply dX rfl|apply Da rfl rfl|apply Db rfl rfl qN);(focus ((try intro hg);first|exact zlS Tryz.underlying110 rfl rfl rfl|exact qMo));constructor)|refine qP ?_)
 refine zag (fun q:Nat×List Bool=>⟨[(0,.dat false (.int .i64 port)),(1,.dat false (.rp [.rp [.slice (t.map zae)]])),(2,.dat false (.rp [.int .i64 b])),(5,.own 900 0 0 q.2.length),(11,.dat true (.int .i64 (t.map zae).length)),(12,.dat true (.int .i64 q.1))],[(900,.row 0 false true 1 (q.2.map zbA))],31⟩)
  (fun q=>q.1≤t.length∧q.2=(zaV t b port).take q.1) (fun q=>t.length-q.1) (0,[]) ⟨Nat.zero_le _,rfl⟩
  (Wk_g (fun g=>if g=900 then none else some g) rfl rfl kq) (fun q hR=>?_)
 obtain⟨k,us⟩:=q
 obtain⟨hk,hus⟩:=hR
 simp only at hk hus
 dsimp only
 have hul:us.length=k:=by rw[hus,List.length_take];omega
 by_cases hlt:k<t.length
 ·have hst:=zf0 (b:=b) (port:=port) hlt
  rw[←hus]at hst
  have hop:=zir n h t ht k b port
  by_cases h0:port=0
  ·rw[decide_eq_true h0,Bool.true_or]at hst
   repeat' (first|refine qU ?_|refine qW ?_|((first|apply dX rfl|apply Da rfl rfl|apply Db rfl rfl qN);(focus ((try intro hg);first|exact zlS Tryz.underlying110 rfl rfl rfl|exact zac hop rfl|exact zan (f:=zbA) (us:=us) (bs := [true]) rfl rfl (.dat _ _) rfl rfl (.inr ⟨rfl,inferInstance⟩) rfl (by simp only[List.length_singleton];omega)|exact qMo));constructor)|refine qP ?_)
   exact zaa (k+1,us++[true]) ⟨hlt,hst.symm⟩ (by simp only;omega) (Wk_g some rfl rfl kqp)
  ·rw[decide_eq_false h0,Bool.false_or]at hst
   generalize zdh t k b port=q at hop hst
   repeat' (first|refine qU ?_|refine qW ?_|((first|apply dX rfl|apply Da rfl rfl|apply Db rfl rfl qN);(focus ((try intro hg);first|exact zlS Tryz.underlying110 rfl rfl rfl|exact zac hop rfl|exact zan (f:=zbA) (us:=us) (bs := [q]) rfl rfl (.dat _ _) rfl rfl (.inr ⟨rfl,inferInstance⟩) rfl (by simp only[List.length_singleton];omega)|exact qMo));constructor)|refine qP ?_)
   exact zaa (k+1,us++[q]) ⟨hlt,hst.symm⟩ (by simp only;omega) (Wk_g some rfl rfl kqp)
 ·have he:us=zaV t b port:=by rw[hus,List.take_of_length_le (by omega)]
  subst he
  refine zaR 5 rfl rfl (by simp) ?_
  repeat' (first|refine qU ?_|refine qW ?_|((first|apply dX rfl|apply Da rfl rfl|apply Db rfl rfl qN);(focus ((try intro hg);first|exact qMo));constructor)|refine qP ?_)
  refine ret1 rfl qF ?_
  rfl
set_option maxHeartbeats 8000000 in
theorem zpz (n:Net) (h:n.good) (t:List (List Mind)) (ht:goodT n t) (b vid:Int):FnF Tryz.prog 67 [.rp n.cells,.rp [.slice (t.map zae)],.int .i64 b,.int .i64 vid] (.slice ((zbc n t b vid).map zaM)):=by
 refine zal Tryz.func67 rfl rfl rfl ?_
 simp only[zap]
 have ho:=zpy n h t ht b
 have hpo:=zen n h.nl b
 have hg0:zbm t b vid 0=⟨0,[vid],vid,zaV t b 0⟩:=rfl
 have hpl:=zjr h b
 have hpp:=fun p hp=>zpx h (b:=b) (p:=p) hp
 repeat' (first|refine zaD 5 (by intro kt et es h;cases (show Box.cells false _ [D.dat false _]=Box.mapb _ _ _ from h)) ?_|refine zaD 6 (by intro kt et es h;cases (show Box.cells false _ [D.dat false _]=Box.mapb _ _ _ from h)) ?_|(apply dt rfl;case h=>exact zb8 (els := [zaM (zbm t b vid 0)]) 20 rfl rfl rfl rfl rfl)|refine qU ?_|refine qW ?_|((first|apply dX rfl|apply Da rfl rfl|apply Db rfl rfl qN);(focus ((try intro hg);first|exact zaq rfl rfl (ho 0)|exact zac hpo rfl|exact qMo));constructor)|refine qP ?_)
 refine zag (fun q:Nat×List Gate=>⟨[(3,.dat false (.int .i64 vid)),(9,.dat false (.fn 121 [.rp [.rp [.slice (t.map zae)]],.rp [.int .i64 b]])),(10,.own 20 0 0 q.2.length),(23,.dat true (.slice ((zah n.links b).map zad))),(24,.dat true (.int .i64 ((zah n.links b).map zad).length)),(25,.dat true (.int .i64 q.1))],[(20,.row 0 false true 4 (q.2.map zaM))],41⟩)
  (fun q=>q.1≤(zah n.links b).length∧q.2=zbm t b vid 0::((zah n.links b).take q.1).map (zbm t b vid)) (fun q=>(zah n.links b).length-q.1) (0,[zbm t b vid 0]) ⟨Nat.zero_le _,rfl⟩
  (Wk_g some rfl rfl kqp) (fun q hR=>?_)
 obtain⟨k,us⟩:=q
 obtain⟨hk,hus⟩:=hR
 simp only at hk hus
 dsimp only
 have hul:us.length=k+1:=by rw[hus,List.length_cons,List.length_map,List.length_take];omega
 have hml:((zah n.links b).map zad).length=(zah n.links b).length:=by simp
 by_cases hlt:k<(zah n.links b).length
 ·have hx0:(zah n.links b)[k]? = some (zah n.links b)[k]:=by simp[hlt]
  have hx:(zah n.links b)[(k:Int).toNat]? = some (zah n.links b)[k]:=by simp[hlt]
  have hp:=hpp _ (List.getElem_mem hlt)
  have hst:=znJ (t:=t) (vid:=vid) hx0
  generalize (zah n.links b)[k]=p at hx hp hst
  have hst2:us++[zbm t b vid p]=zbm t b vid 0::((zah n.links b).take (k+1)).map (zbm t b vid):=by rw[hst,hus];rfl
  have hgp:zbm t b vid p=⟨p,[vid],0,zaV t b p⟩:=by unfold zbm;rw[if_neg (by omega)]
  rw[hgp]at hst2
  have hop:=ho p
  generalize zaV t b p=os at hop hst2
  repeat' (first|refine qU ?_|refine qW ?_|((first|apply dX rfl|apply Da rfl rfl|apply Db rfl rfl qN);(focus ((try intro hg);first|exact zaf rfl rfl (by omega) hx|exact zaq rfl rfl hop|exact zan (f:=zaM) (us:=us) (bs := [⟨p,[vid],0,os⟩]) rfl rfl (.dat _ _) rfl rfl (.inl rfl) rfl (by simp only[List.length_singleton];omega)|exact qMo));constructor)|refine qP ?_)
  exact zaa (k+1,us++[⟨p,[vid],0,os⟩]) ⟨hlt,hst2⟩ (by simp only;omega) (Wk_g some rfl rfl kqp)
 ·have he:us=zbc n t b vid:=by rw[hus,List.take_of_length_le (by omega)];rfl
  subst he
  refine zaR 10 rfl rfl (by simp) ?_
  repeat' (first|refine qU ?_|refine qW ?_|((first|apply dX rfl|apply Da rfl rfl|apply Db rfl rfl qN);(focus ((try intro hg);first|exact qMo));constructor)|refine qP ?_)
  refine ret1 rfl qF ?_
  rfl
def zs1 (q:Option (Int×Int)) (f:Frame):V:=match q with|none=>.tuple [.agg (zbO .zero),.bool false]|some q=>.tuple [.agg (zbO ⟨q.1,q.2,f⟩),.bool true]
theorem zlV {ls:List Link} {k:Nat} {l:Link} {b p:Int} (h:ls[k]? = some l):zbT (ls.drop k) b p=if l.up=true∧l.a=b∧l.pa=p then some (l.b,l.pb)else if l.up=true∧l.b=b∧l.pb=p then some (l.a,l.pa)else zbT (ls.drop (k+1)) b p:=by
 obtain⟨hk,rfl⟩:=List.getElem?_eq_some_iff.1 h
 rw[List.drop_eq_getElem_cons hk];rfl
set_option maxHeartbeats 8000000 in
theorem znK (n:Net) (hnl:n.links.length≤40) (b p:Int) (f:Frame):FnG Tryz.prog 68 (zbM [false,false,true] [.rp n.cells,.int .i64 b,.agg (outV (p,f))]) [] (.dat true (zs1 (zbT n.links b p) f)) []:=by
 refine zbj Tryz.func68 rfl rfl rfl ?_
 simp only[zbM,envD]
 have hml:(n.links.map zar).length=n.links.length:=by simp
 repeat' (first|refine qU ?_|refine qW ?_|((first|apply dX rfl|apply Da rfl rfl|apply Db rfl rfl qN);(focus ((try intro hg);first|exact qMo));constructor)|refine qP ?_)
 refine zag (fun k:Nat=>⟨[(1,.dat false (.int .i64 b)),(5,.ptr 5 0),(6,.ptr 6 0),(13,.dat false (.slice (n.links.map zar))),(14,.dat true (.int .i64 (n.links.map zar).length)),(15,.dat true (.int .i64 k))],[(5,.cells false true ((outV (p,f)).map (.dat true))),(6,.cells false true ((zbO .zero).map (.dat true)))],60⟩)
  (fun k=>k≤n.links.length∧zbT n.links b p=zbT (n.links.drop k) b p) (fun k=>n.links.length-k) 0 ⟨Nat.zero_le _,rfl⟩ (Wk_g some rfl rfl kqp) (fun k hR=>?_)
 obtain⟨hk,hon⟩:=hR
 rw[hon]
 by_cases hlt:k<n.links.length
 ·have hx0:n.links[k]? = some n.links[k]:=by simp[hlt]
  have hx:n.links[(k:Int).toNat]? = some n.links[k]:=by simp[hlt]
  rw[zlV hx0]
  generalize n.links[k]=l at hx
  obtain⟨a,pa,b',pb,cost,up⟩:=l
  simp only
  cases up with
  | false =>
   simp only[Bool.false_eq_true,false_and,if_false] 
   repeat' (first|refine qU ?_|refine qW ?_|((first|apply dX rfl|apply Da rfl rfl|apply Db rfl rfl qN);(focus ((try intro hg);first|exact zaf rfl rfl (by omega) hx|exact qMo));constructor)|refine qP ?_)
   exact zaa (k+1) ⟨hlt,rfl⟩ (by omega) (Wk_g some rfl rfl kqp)
  | true =>
   simp only[true_and] 
   by_cases h1:a=b∧pa=p
   ·rw[if_pos h1]
    obtain⟨h1a,h1b⟩:=h1
    repeat' (first|refine qU ?_|refine qW ?_|((first|apply dX rfl|apply Da rfl rfl|apply Db rfl rfl qN);(focus ((try intro hg);first|exact zaf rfl rfl (by omega) hx|exact qMo));constructor)|refine qP ?_)
    refine gDat (.cellA inferInstance rfl rfl rfl rfl qF (.tmp rfl qF .nil)) zav ?_
    rfl
   ·rw [if_neg h1]
    by_cases h2:b'=b∧pb=p
    ·rw[if_pos h2]
     obtain⟨h2a,h2b⟩:=h2
     by_cases h1a:a=b
     ·have h1b:¬pa=p:=fun e=>h1 ⟨h1a,e⟩
      repeat' (first|refine qU ?_|refine qW ?_|((first|apply dX rfl|apply Da rfl rfl|apply Db rfl rfl qN);(focus ((try intro hg);first|exact zaf rfl rfl (by omega) hx|exact qMo));constructor)|refine qP ?_)
      refine gDat (.cellA inferInstance rfl rfl rfl rfl qF (.tmp rfl qF .nil)) zav ?_
      rfl
     ·repeat' (first|refine qU ?_|refine qW ?_|((first|apply dX rfl|apply Da rfl rfl|apply Db rfl rfl qN);(focus ((try intro hg);first|exact zaf rfl rfl (by omega) hx|exact qMo));constructor)|refine qP ?_)
      refine gDat (.cellA inferInstance rfl rfl rfl rfl qF (.tmp rfl qF .nil)) zav ?_
      rfl
    ·rw [if_neg h2] 
     by_cases h1a:a=b
     ·have h1b:¬pa=p:=fun e=>h1 ⟨h1a,e⟩
      by_cases h2a:b'=b
      ·have h2b:¬pb=p:=fun e=>h2 ⟨h2a,e⟩
       repeat' (first|refine qU ?_|refine qW ?_|((first|apply dX rfl|apply Da rfl rfl|apply Db rfl rfl qN);(focus ((try intro hg);first|exact zaf rfl rfl (by omega) hx|exact qMo));constructor)|refine qP ?_)
       exact zaa (k+1) ⟨hlt,rfl⟩ (by omega) (Wk_g some rfl rfl kqp)
      ·repeat' (first|refine qU ?_|refine qW ?_|((first|apply dX rfl|apply Da rfl rfl|apply Db rfl rfl qN);(focus ((try intro hg);first|exact zaf rfl rfl (by omega) hx|exact qMo));constructor)|refine qP ?_)
       exact zaa (k+1) ⟨hlt,rfl⟩ (by omega) (Wk_g some rfl rfl kqp)
     ·by_cases h2a:b'=b
      ·have h2b:¬pb=p:=fun e=>h2 ⟨h2a,e⟩
       repeat' (first|refine qU ?_|refine qW ?_|((first|apply dX rfl|apply Da rfl rfl|apply Db rfl rfl qN);(focus ((try intro hg);first|exact zaf rfl rfl (by omega) hx|exact qMo));constructor)|refine qP ?_)
       exact zaa (k+1) ⟨hlt,rfl⟩ (by omega) (Wk_g some rfl rfl kqp)
      ·repeat' (first|refine qU ?_|refine qW ?_|((first|apply dX rfl|apply Da rfl rfl|apply Db rfl rfl qN);(focus ((try intro hg);first|exact zaf rfl rfl (by omega) hx|exact qMo));constructor)|refine qP ?_)
       exact zaa (k+1) ⟨hlt,rfl⟩ (by omega) (Wk_g some rfl rfl kqp)
 ·rw[List.drop_eq_nil_of_le (by omega)]
  repeat' (first|refine qU ?_|refine qW ?_|((first|apply dX rfl|apply Da rfl rfl|apply Db rfl rfl qN);(focus ((try intro hg);first|exact qMo));constructor)|refine qP ?_)
  refine gDat (.cellA inferInstance rfl rfl rfl rfl qF (.tmp rfl qF .nil)) zav ?_
  rfl
end Go.Proofs.YtcdhlofhhcgohaaGreat
