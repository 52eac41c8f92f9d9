/- The shapes of books of many bridges, and of frames. -/
import Derived.ChangeArms
import Derived.ChangeBears
import Derived.ChangeOld
import Derived.ChangeSame
import Derived.Deep.Slices
import Derived.OpenShut
import Derived.ReadAgain
import Derived.Test.YtcdhlofhhcgohaaGreatRows
import Derived.Test.YtcdhlofhhcgohaaGreatwbWk
import Derived.ProofKit
import Derived.Test.YtcdhlofhhcgohaaGreatwcPlO
import Derived.Test.YtcdhlofhhcgohaaGreatwdTlc
import Derived.Test.YtcdhlofhhcgohaaGreatwbGo
import Derived.Test.YtcdhlofhhcgohaaGreatwcSh
namespace Go.Proofs.YtcdhlofhhcgohaaGreat
open Go.RowKit Go.WideShapes Go.ChangeShapes Go.Deep
inductive Sh where
 | bool
 | int (k:IntKind)
 | str
 | slice (es:List Sh)
inductive HasSh : V→Sh→Prop
 | bool (b:Bool):HasSh (.bool b) .bool
 | int (k:IntKind) (n:Int) (h:(Lit.int k n).wf=true):HasSh (.int k n) (.int k)
 | str (s:List UInt8) (h:s.length≤maxLen):HasSh (.str s) .str
 | slice (xs:List (List V)) (es:List Sh) (hn:xs.length≤maxLen) (hl:∀ e∈xs,e.length=es.length)
   (h:∀ (e:List V),e∈xs→∀ (j:Nat) (d:V) (s:Sh),e[j]? = some d→es[j]? = some s→HasSh d s):HasSh (.slice xs) (.slice es)
mutual
def V.bulk : V→Nat
 | .slice xs=>zcm xs+1
 | .str s=>s.length+1
 | _=>1
def zcC : List V→Nat
 | []=>0
 | x::r=>x.bulk+zcC r
def zcm : List (List V)→Nat
 | []=>0
 | x::r=>zcC x+zcm r
end
theorem zf6 : ∀ a b:List V,zcC (a++b)=zcC a+zcC b
 | [],b=>by simp[zcC]
 | x::a,b=>by simp[zcC,zf6 a b];omega
theorem V.bulk_pos : ∀ x:V,1≤x.bulk:=fun x=>by cases x<;>simp[V.bulk]
theorem zjI : ∀ xs:List (List V),(∀ e∈xs,e≠[])→xs.length≤zcm xs
 | [],_=>by simp[zcm]
 | e::r,h=>by
  have h1:=zjI r (fun e he=>h e (List.mem_cons.2 (.inr he)))
  have h2:1≤zcC e:=by
   cases e with
   | nil=>exact absurd rfl (h [] (List.mem_cons.2 (.inl rfl)))
   | cons x q=>simp only[zcC];have:=x.bulk_pos;omega
  simp only[zcm,List.length_cons];omega
def ListSh (vs:List V) (ss:List Sh):Prop:=vs.length=ss.length∧∀ (j:Nat) d s,vs[j]? = some d→ss[j]? = some s→HasSh d s
def RdC (S:Nat→Prop) (w:World) (vs:List V) (cs:List Value):Prop:=vs.length=cs.length∧∀ (j:Nat) d c,vs[j]? = some d→cs[j]? = some c→Rd S w d c
theorem HasSh.one {d:V} {s:Sh} (h:HasSh d s):d.one=true:=by cases h<;>rfl
theorem ListSh.append {a b:List V} {s t:List Sh} (h:ListSh a s) (k:ListSh b t):ListSh (a++b) (s++t):=by
 refine⟨by simp[h.1,k.1],fun j d u h1 h2=>?_⟩
 by_cases hj:j<a.length
 ·rw[List.getElem?_append_left hj]at h1
  rw[List.getElem?_append_left (by rw[←h.1];exact hj)]at h2
  exact h.2 j d u h1 h2
 ·rw[List.getElem?_append_right (by omega)]at h1
  rw[List.getElem?_append_right (by rw[←h.1];omega),←h.1]at h2
  exact k.2 _ d u h1 h2
theorem RdC.append {S:Nat→Prop} {w:World} {a b:List V} {s t:List Value} (h:RdC S w a s) (k:RdC S w b t):RdC S w (a++b) (s++t):=by
 refine⟨by simp[h.1,k.1],fun j d u h1 h2=>?_⟩
 by_cases hj:j<a.length
 ·rw[List.getElem?_append_left hj]at h1
  rw[List.getElem?_append_left (by rw[←h.1];exact hj)]at h2
  exact h.2 j d u h1 h2
 ·rw[List.getElem?_append_right (by omega)]at h1
  rw[List.getElem?_append_right (by rw[←h.1];omega),←h.1]at h2
  exact k.2 _ d u h1 h2
theorem ListSh.nil : ListSh [] []:=⟨rfl,by simp⟩
theorem RdC.nil {S:Nat→Prop} {w:World}:RdC S w [] []:=⟨rfl,by simp⟩
theorem ListSh.one {d:V} {s:Sh} (h:HasSh d s):ListSh [d] [s]:=by
 refine⟨rfl,fun j d' s' h1 h2=>?_⟩
 cases j with
 | zero=>simp at h1 h2;subst h1 h2;exact h
 | succ j=>simp at h1
theorem RdC.one {S:Nat→Prop} {w:World} {d:V} {c:Value} (h:Rd S w d c):RdC S w [d] [c]:=by
 refine⟨rfl,fun j d' s' h1 h2=>?_⟩
 cases j with
 | zero=>simp at h1 h2;subst h1 h2;exact h
 | succ j=>simp at h1
section
variable (P : Program)
def shOf : Nat→TypeId→Option (List Sh)
 | 0,_=>none
 | n+1,t=>match P.underlying t with
  | some .bool=>some [.bool]
  | some (.int k)=>some [.int k]
  | some .string=>some [.str]
  | some (.slice e)=>(shOf n e).map fun es=>[.slice es]
  | some (.struct fs)=>(fs.toList.mapM fun f=>shOf n f.type).map List.flatten
  | _=>none
def isAgg (t:TypeId):Bool:=match P.underlying t with
 | some (.struct _)|some (.array _ _)=>true
 | _=>false
def parV (t:TypeId) (vs:List V):V:=if isAgg P t then .agg vs else vs.headD .undef
end
section
variable {H : Type} {enc : TypeId × Value → H} {P : Program} {w : World}
theorem zqj {a:Addr} {v:Value} (h:w.cell? a=some v):a=⟨a.block,a.off,none⟩∧a.block<w.heap.size:=by
 unfold World.cell? at h
 split at h
 ·rename_i c _ _ hb
  split at h
  ·cases h
  ·rename_i hs
   refine⟨?_,(Array.getElem?_eq_some_iff.1 hb).1⟩
   obtain⟨b,o,s⟩:=a
   cases s with
   | none=>rfl
   | some s=>exact absurd rfl hs
 ·cases h
theorem zhF {base:Nat} {a:Addr} {n:Nat} {cs:List Value} (h:w.cells? base a n=some cs):cs.length=n∧∀ (i:Nat) c,cs[i]? = some c→w.cell? (a.add i)=some c:=by
 obtain⟨_,hl,hc⟩:=World.cells?_some h
 refine⟨hl,fun i c hi=>?_⟩
 have hi':i<n:=by rw[←hl];exact(List.getElem?_eq_some_iff.1 hi).1
 rw[hc i hi',hi]
theorem zdo {α β:Type} {f:α→Option β} {a:α} {l:List α} {r:List β} (h:(a::l).mapM f=some r):∃ x y,f a=some x∧l.mapM f=some y∧r=x::y:=by
 rw[List.mapM_cons]at h
 cases hx:f a with
 | none=>simp[hx]at h
 | some x =>
  cases hy:l.mapM f with
  | none=>simp[hx,hy]at h
  | some y=>simp[hx,hy]at h;exact⟨x,y,rfl,rfl,h.symm⟩
theorem zr0 {α β:Type} {f:α→Option β}:∀ {l:List α} {r:List β},l.mapM f=some r→∀ x∈l,∃ y,f x=some y
 | [],_,_,x,hx=>absurd hx List.not_mem_nil
 | a::l,r,h,x,hx=>by
  obtain⟨y,z,h1,h2,_⟩:=zdo h
  rcases List.mem_cons.1 hx with rfl|hx
  ·exact⟨y,h1⟩
  ·exact zr0 h2 x hx
theorem zhG {S:Nat→Prop} {g:TypeId→Option (List Sh)} (cs:List Value):∀ (l:List Field) (o:Nat) (ss:List (List Sh)) (ds:List (DataW H)),
  (∀ (j:Nat) f,l[j]? = some f→f.offset=o+((l.take j).map fun f=>P.cellsOf f.type).sum)→l.mapM (fun f=>g f.type)=some ss→ds.length=l.length →
  (∀ (j:Nat) f d,l[j]? = some f→ds[j]? = some d→∀ s,g f.type=some s→∃ vs,RdC S w vs ((cs.drop f.offset).take (P.cellsOf f.type))∧ListSh vs s∧zcC vs≤Rows.uptoBulk d) →
  ∃ vs,RdC S w vs ((cs.drop o).take ((l.map fun f=>P.cellsOf f.type).sum))∧ListSh vs ss.flatten∧zcC vs≤Rows.uptoBulkAll ds
 | [],o,ss,ds,_,hm,_,_=>by
  simp at hm;subst hm
  exact⟨[],by simpa using RdC.nil,ListSh.nil,by simp[zcC]⟩
 | f::l,o,ss,[],_,_,hl,_=>by simp at hl
 | f::l,o,ss,d::ds,ho,hm,hl,hx=>by
  obtain⟨s,ss',h1,h2,rfl⟩:=zdo hm
  have hf:f.offset=o:=by simpa using ho 0 f rfl
  obtain⟨vs,k1,k2,k5⟩:=hx 0 f d rfl rfl s h1
  obtain⟨vs',k3,k4,k6⟩:=zhG cs l (o+P.cellsOf f.type) ss' ds (fun j f' hj=>by
   have:=ho (j+1) f' hj
   simpa[Nat.add_assoc]using this) h2 (by simpa using hl) (fun j f' d' hj hd=>hx (j+1) f' d' hj hd)
  refine⟨vs++vs',?_,?_,?_⟩
  ·have:=k1.append k3
   rw[hf]at this
   simp only[List.map_cons,List.sum_cons]
   rw[List.take_add,List.drop_drop]
   exact this
  ·simpa using k2.append k4
  ·rw[zf6,Rows.uptoBulkAll];omega
theorem ziE {F:Nat→List V} {D:Nat→DataW H}:∀ (l:List Nat),(∀ i∈l,zcC (F i)≤Rows.uptoBulk (D i))→zcm (l.map F)≤Rows.uptoBulkAll (l.map D)
 | [],_=>by simp[zcm]
 | i::l,h=>by
  have h1:=h i (List.mem_cons.2 (.inl rfl))
  have h2:=ziE l (fun i hi=>h i (List.mem_cons.2 (.inr hi)))
  simp only[List.map_cons,zcm,Rows.uptoBulkAll]
  omega
theorem zn2 {S:Nat→Prop} (hS:∀ b,b<w.heap.size→S b) (K:Kids P (· < P.types.size)) (hz:∀ t e,t<P.types.size→P.underlying t=some (.slice e)→0<P.cellsOf e) :
  ∀ (n fuel:Nat) (t:TypeId) (cs:List Value) (x:DataW H×List MemPlace) (ss:List Sh),t<P.types.size→shOf P n t=some ss →
  DataW.trod enc P w 0 (fun _=>true) true fuel t cs=some x→∃ vs,RdC S w vs cs∧ListSh vs ss∧zcC vs≤Rows.uptoBulk x.1:=by
 intro n
 induction n with
 | zero=>intro _ _ _ _ _ _ h;simp[shOf]at h
 | succ n ih =>
  intro fuel t cs x ss ht hs hd
  unfold shOf at hs
  split at hs
  ·rename_i hu
   obtain⟨b,rfl,rfl⟩:=DataW.trod_bool hu hd
   cases hs
   exact⟨_,RdC.one (.bool b),ListSh.one (.bool b),by simp[zcC,V.bulk,Rows.uptoBulk]⟩
  ·rename_i k hu
   obtain⟨m,rfl,rfl,hw⟩:=DataW.trod_int hu hd
   cases hs
   exact⟨_,RdC.one (.int k m),ListSh.one (.int k m hw),by simp[zcC,V.bulk,Rows.uptoBulk]⟩
  ·rename_i hu
   obtain⟨s,rfl,rfl,hl⟩:=DataW.trod_string hu hd
   cases hs
   refine⟨_,RdC.one (?_:Rd S w (.str s.data.toList) _),ListSh.one (.str _ ?_),by simp[zcC,V.bulk,Rows.uptoBulk]⟩
   ·have:=Rd.str (S:=S) (w:=w) s.data.toList
    simpa using this
   ·simpa using hl
  ·rename_i e hu
   cases he:shOf P n e with
   | none=>simp[he]at hs
   | some es =>
    simp only[he,Option.map_some,Option.some.injEq]at hs
    subst hs
    have hlt:=K.slice ht hu
    have hpos:=hz t e ht hu
    rcases open_slice hu hd with⟨rfl,rfl⟩|⟨a,len,cap,m,fu,D,Pl,rfl,_,hle,hcap,hm,rfl,hel⟩
    ·exact⟨_,RdC.one .nil,ListSh.one (.slice [] es (by simp) (by simp) (by simp)),by simp[zcC,zcm,V.bulk,Rows.uptoBulk]⟩
    ·simp at hm
     subst hm
     have hel':∀ i,i<len→∃ y:List Value×List V,w.cells? 0 (a.add (i*P.cellsOf e)) (P.cellsOf e)=some y.1∧RdC S w y.2 y.1∧ListSh y.2 es∧zcC y.2≤Rows.uptoBulk (D i):=fun i hi=>by
      obtain⟨cs',h1,h2⟩:=hel i (by omega)
      obtain⟨vs,h3,h4,h5⟩:=ih _ _ _ _ _ hlt he h2
      exact⟨(cs',vs),h1,h3,h4,h5⟩
     obtain⟨F,hF⟩:=choose_lt hel'
     by_cases h0:len=0
     ·subst h0
      exact⟨_,RdC.one (.mt a m hcap),ListSh.one (.slice [] es (by simp) (by simp) (by simp)),by simp[zcC,zcm,V.bulk,Rows.uptoBulk]⟩
     ·have hat:∀ i j d,i<len→(F i).2[j]? = some d→∃ c,(F i).1[j]? = some c∧w.cell? (a.add (i*P.cellsOf e+j))=some c∧Rd S w d c:=fun i j d hi hj=>by
       obtain⟨h1,h2,_⟩:=hF i hi
       obtain⟨hl,hc⟩:=zhF h1
       have hj':j<(F i).1.length:=by rw[←h2.1];exact(List.getElem?_eq_some_iff.1 hj).1
       refine⟨(F i).1[j],List.getElem?_eq_getElem hj',?_,h2.2 j d _ hj (List.getElem?_eq_getElem hj')⟩
       have:=hc j _ (List.getElem?_eq_getElem hj')
       rwa[Go.Deep.add_add]at this
      have hspot:a=⟨a.block,a.off,none⟩∧a.block<w.heap.size:=by
       obtain⟨h1,h2,h3⟩:=hF 0 (by omega)
       obtain⟨hl,hc⟩:=zhF h1
       have:=hc 0 _ (List.getElem?_eq_getElem (by omega))
       rw[Go.Deep.add_add,show 0*P.cellsOf e+0=0 by omega,show a.add 0=a by simp[Addr.add]]at this
       exact zqj this
      let xs:List (List V):=(List.range len).map fun i=>(F i).2
      have hxs:∀ (i:Nat) (y:List V),xs[i]? = some y→i<len∧y=(F i).2:=fun i y h=>by
       by_cases hi:i<len
       ·simp only[xs,List.getElem?_map,List.getElem?_range hi,Option.map_some,Option.some.injEq]at h
        exact⟨hi,h.symm⟩
       ·simp[xs,hi]at h
      have hlen:xs.length=len:=by simp[xs]
      refine⟨[.slice xs],RdC.one ?_,ListSh.one (.slice xs es (by omega) ?_ ?_),?_⟩
      ·rw[hspot.1]
       rw[←hlen]
       refine Rd.slice xs a.block a.off m (P.cellsOf e) (fun i j=>(F i).1.getD j undef) (by omega) hcap ?_ ?_ (fun _=>hS _ hspot.2) ?_ ?_
       ·intro i y hy
        obtain⟨hi,rfl⟩:=hxs i y hy
        obtain⟨h1,h2,_⟩:=hF i hi
        rw[h2.1,(zhF h1).1]
       ·intro i j y d hy hd'
        obtain⟨hi,rfl⟩:=hxs i y hy
        obtain⟨_,_,h3,_⟩:=hF i hi
        have hj:j<es.length:=by rw[←h3.1];exact(List.getElem?_eq_some_iff.1 hd').1
        exact(h3.2 j d _ hd' (List.getElem?_eq_getElem hj)).one
       ·intro i j y d hy hd'
        obtain⟨hi,rfl⟩:=hxs i y hy
        obtain⟨c,k1,k2,_⟩:=hat i j d hi hd'
        rw[hspot.1,aadd]at k2
        rw[List.getD_eq_getElem?_getD,k1]
        simpa[Nat.add_assoc]using k2
       ·intro i j y d hy hd'
        obtain⟨hi,rfl⟩:=hxs i y hy
        obtain⟨c,k1,_,k3⟩:=hat i j d hi hd'
        rw[List.getD_eq_getElem?_getD,k1]
        exact k3
      ·intro y hy
       obtain⟨i,hi⟩:=List.getElem?_of_mem hy
       obtain⟨hi',rfl⟩:=hxs i y hi
       exact(hF i hi').2.2.1.1
      ·intro y hy j d s hj hs'
       obtain⟨i,hi⟩:=List.getElem?_of_mem hy
       obtain⟨hi',rfl⟩:=hxs i y hi
       exact(hF i hi').2.2.1.2 j d s hj hs'
      ·have:=ziE (F:=fun i=>(F i).2) (D:=D) (List.range len) (fun i hi=>(hF i (List.mem_range.1 hi)).2.2.2)
       simp only[zcC,V.bulk,Rows.uptoBulk,xs]
       omega
  ·rename_i fs hu
   cases hm:fs.toList.mapM fun f=>shOf P n f.type with
   | none=>simp[hm]at hs
   | some sss =>
    simp only[hm,Option.map_some,Option.some.injEq]at hs
    subst hs
    obtain⟨k1,k2,k3⟩:=K.struct ht hu
    obtain⟨xs,fu,_,rfl,hl,hxl,hf⟩:=DataW.trod_struct hu hd
    obtain ⟨vs,g1,g2,g3⟩:=zhG (S:=S) (g:=shOf P n) cs fs.toList 0 sss (xs.map (·.1)) (fun j f h=>by simpa using k3 j f h) hm (by simpa using hxl) (fun i f d hi hdi s hs'=>by
     have hi2:fs[i]? = some f:=by simpa using hi
     have h1:=hf i f hi2
     have hil:i<xs.length:=by rw[hxl];exact(Array.getElem?_eq_some_iff.1 hi2).1
     rw[List.getElem?_eq_getElem hil]at h1
     have hd:d=(xs[i]).1:=by
      rw[List.getElem?_map,List.getElem?_eq_getElem hil]at hdi
      simpa using hdi.symm
     subst hd
     exact ih _ _ _ _ _ (k1 f (List.mem_of_getElem? hi)) hs' h1)
    refine⟨vs,?_,g2,by simp only[Rows.uptoBulk];omega⟩
    rw[←k2,←hl]at g1
    simpa using g1
  ·cases hs
end
def zqk : List (List V)→List (List Sh)→Prop
 | [],[]=>True
 | vs::r,ss::q=>ListSh vs ss∧zqk r q
 | _,_=>False
def zhW (P:Program):List TypeId→List (List V)→List V
 | t::ts,vs::r=>parV P t vs::zhW P ts r
 | _,_=>[]
section
variable {H : Type} {enc : TypeId × Value → H} {P : Program} {w : World}
theorem ztQ {S:Nat→Prop} (hS:∀ b,b<w.heap.size→S b) (K:Kids P (· < P.types.size)) (hz:∀ t e,t<P.types.size→P.underlying t=some (.slice e)→0<P.cellsOf e)
  {n base:Nat} {t:TypeId} {v:Value} {d:DataW H} {ps:List MemPlace} {ss:List Sh} (ht:t<P.types.size) (hs:shOf P n t=some ss) (hv:Value.okWide P w .any base t v)
  (hd:DataW.Trod enc P w 0 (fun _=>true) true t v d ps):∃ vs,ListSh vs ss∧Rd S w (parV P t vs) v∧zcC vs≤Rows.uptoBulk d:=by
 obtain⟨fuel,hf⟩:=hd
 obtain⟨vs,h1,h2,h3⟩:=zn2 hS K hz n fuel t _ _ ss ht hs hf
 refine⟨vs,h2,?_,h3⟩
 have hagg:isAgg P t=true→∃ cs,v = .agg cs:=fun h=>by
  unfold isAgg at h
  unfold Value.okWide at hv
  split at h
  ·rename_i hu;rw[hu]at hv;exact⟨_,hv.choose_spec.1⟩
  ·rename_i hu;rw[hu]at hv;exact⟨_,hv.choose_spec.1⟩
  ·cases h
 have hone:isAgg P t=false→v.cells.toList=[v]:=fun h=>by
  cases v with
  | agg cs =>
   exfalso
   cases n with
   | zero=>simp[shOf]at hs
   | succ n =>
    unfold shOf at hs
    unfold isAgg at h
    unfold Value.okWide Cell.okWide Cell.ok at hv
    split at hs<;>rename_i hu<;>first|(cases hs;done)|(simp[hu]at hv h;done)
  | _=>rfl
 unfold parV
 cases ha:isAgg P t with
 | true =>
  obtain⟨cs,rfl⟩:=hagg ha
  simp only[if_true]
  refine Rd.agg vs cs ?_ ?_
  ·simpa[Value.cells]using h1.1.symm
  ·intro j d' c k1 k2
   exact h1.2 j d' c k1 (by simpa[Value.cells]using k2)
 | false =>
  have hc:=hone ha
  rw[hc]at h1
  match vs,h1 with
  | [x],h1=>exact h1.2 0 x v rfl rfl
theorem zql {S:Nat→Prop} (hS:∀ b,b<w.heap.size→S b) (K:Kids P (· < P.types.size)) (hz:∀ t e,t<P.types.size→P.underlying t=some (.slice e)→0<P.cellsOf e) {n base:Nat} :
  ∀ {ts:List TypeId} {vs:List Value} {ds:List (DataW H)} {ps:List MemPlace} {sss:List (List Sh)},(∀ t∈ts,t<P.types.size)→ts.mapM (shOf P n)=some sss →
  (∀ (j:Nat) t v,ts[j]? = some t→vs[j]? = some v→Value.okWide P w .any base t v) →
  DataW.TrodAll enc P w 0 (fun _=>true) true ts vs ds ps→∃ vss,zqk vss sss∧zcm vss≤Rows.uptoBulkAll ds∧vs.length=(zhW P ts vss).length∧∀ (j:Nat) d c,(zhW P ts vss)[j]? = some d→vs[j]? = some c→Rd S w d c
 | [],[],[],_,sss,_,hm,_,_=>by
  simp at hm;subst hm
  exact⟨[],trivial,by simp[zcm],rfl,by simp[zhW]⟩
 | t::ts,v::vs,d::ds,_,sss,ht,hm,hv,⟨p,q,h1,h2,_⟩=>by
  obtain⟨s,sss',g1,g2,rfl⟩:=zdo hm
  obtain⟨x,k1,k2,k6⟩:=ztQ hS K hz (ht t (List.mem_cons.2 (.inl rfl))) g1 (hv 0 t v rfl rfl) h1
  obtain⟨r,k3,k7,k4,k5⟩:=zql hS K hz (fun t' h'=>ht t' (List.mem_cons.2 (.inr h'))) g2 (fun j t' v' a b=>hv (j+1) t' v' a b) h2
  refine⟨x::r,⟨k1,k3⟩,by simp only[zcm,Rows.uptoBulkAll];omega,by simp[zhW,k4],fun j d' c a b=>?_⟩
  cases j with
  | zero=>simp[zhW]at a b;subst a b;exact k2
  | succ j=>exact k5 j d' c (by simpa[zhW]using a) (by simpa using b)
 | [],_::_,_,_,_,_,_,_,h=>by simp[DataW.TrodAll]at h
 | [],[],_::_,_,_,_,_,_,h=>by simp[DataW.TrodAll]at h
 | _::_,[],_,_,_,_,_,_,h=>by simp[DataW.TrodAll]at h
 | _::_,_::_,[],_,_,_,_,_,h=>by simp[DataW.TrodAll]at h
theorem zjJ {w':World} {sp:Nat→Bool} (K:Kids P (· < P.types.size)) (hz:∀ t e,t<P.types.size→P.underlying t=some (.slice e)→0<P.cellsOf e)
  {ts:List TypeId} {vs:List Value} {ds:List (DataW H)} {ps:List MemPlace} (ht:∀ t∈ts,t<P.types.size) (h:DataW.TrodAll enc P w 0 (fun _=>true) true ts vs ds ps)
  (hb:Below w.heap.size w w') (hs:∀ p∈ps,sp p.block=true):DataW.TrodAll enc P w' 0 sp true ts vs ds ps:=by
 have hk:∀ {ts:List TypeId} {vs:List Value} {ds:List (DataW H)} {ps:List MemPlace},DataW.TrodAll enc P w 0 (fun _=>true) true ts vs ds ps→DataW.TrodAll enc P w' 0 (fun _=>true) true ts vs ds ps:=by
  intro ts
  induction ts with
  | nil =>
   intro vs ds ps h
   cases vs<;>cases ds<;>simp[DataW.TrodAll]at h ⊢
   exact h
  | cons t ts ih =>
   intro vs ds ps h
   cases vs with
   | nil=>simp[DataW.TrodAll]at h
   | cons v vs =>
    cases ds with
    | nil=>simp[DataW.TrodAll]at h
    | cons d ds =>
     obtain⟨p,q,⟨fu,h1⟩,h2,e⟩:=h
     refine⟨p,q,⟨fu,DataW.trod_carry fu _ _ _ h1 (fun x hx=>?_)⟩,ih h2,e⟩
     have hl:=DataW.trod_lt fu _ _ _ h1 x hx
     have hbl:=hb.block _ hl
     cases x with
     | cell b o =>
      simp only[MemPlace.block]at hbl
      simp only[World.sameAt,World.cell?,hbl]
     | map b =>
      simp only[MemPlace.block]at hbl
      simp only[World.sameAt,hbl]
 exact(hk h).respare K hz ht hs
theorem zqm {f:Func} {s:ChangeSpec} {fresh handsOn again:Bool} {W W':World} {args:Array Value} {tb:TypeId} {v:Value} {d:DataW H} {ds:List (DataW H)} {p:List MemPlace}
  (hr:f.resultTypes = #[tb]) (hone:v.resultList 1=[v]) (hvars:s.vars=[]) (hs:s.fn H ds = { results := [d],args:=ds })
  (hA:DataW.TrodAll enc P W 0 (fun _=>true) true f.params.toList args.toList ds p) (hz:W.noneFrozen p) (hB:Below W.heap.size W W')
  (hres:∀ (b:Nat) (sp:Nat→Bool) (hd:Bool),DataW.Trod enc P W' b sp hd tb v d []) (hok:Value.okWide P W' .any 0 tb v)
  (hargs:∀ sp:Nat→Bool,(∀ x∈p,sp x.block=true)→DataW.TrodAll enc P W' 0 sp true f.params.toList args.toList ds p) :
  s.post enc P f false fresh handsOn again W args v W':=by
 have hlt:∀ x∈p,x.block<W.heap.size:=fun x hx=>DataW.TrodAll.lt hA x hx
 have hV0:∀ (w:World) (sp:Nat→Bool),DataW.TrodVars enc P w sp s.vars ([]:List (DataW H)) []:=fun w sp=>by rw[hvars];exact rfl
 have hR:∀ (b:Nat) (sp:Nat→Bool) (hd:Bool),DataW.TrodAll enc P W' b sp hd f.resultTypes.toList (v.resultList f.resultTypes.size) [d] []:=fun b sp hd=>by
  rw[hr]
  show DataW.TrodAll enc P W' b sp hd [tb] (v.resultList 1) [d] []
  rw[hone]
  exact trodAll_cons_mk (hres b sp hd) trodAll_mk0
 have e:ds++[]=ds:=List.append_nil ds
 refine⟨ds,[],p,[],p,[],⟨p,[],hA,hV0 _ _,(List.append_nil p).symm,hz,nofun⟩,?_,?_,?_,?_,fun _=>⟨?_,?_⟩⟩
 ·rw[e,hs];exact hR _ _ _
 ·rw[e,hs];exact hargs _ (fun x hx=>by simpa using hlt x hx)
 ·rw[e,hs];exact hV0 _ _
 ·refine World.keptBut_mono (fun x hx=>⟨hx,.inr ?_⟩) (hB.frame (· ∈ p))
  simpa using hx
 ·exact ok_one hr hone hok
 ·refine⟨[d]++ds,[],[]++p,⟨[]++p,[],?_,hV0 _ _,(List.append_nil _).symm,?_,nofun⟩,?_⟩
  ·exact trodAll_append (hargs _ (fun _ _=>rfl)) (hR _ _ _)
  ·intro b off hp
   have hin:MemPlace.cell b off∈p:=by simpa using hp
   rw[hB.frozen (hlt _ hin)]
   exact hz b off hin
  ·intro x hx _
   simpa using hx
theorem zhH {f:FuncId} {fn:Func} {s:ChangeSpec} {fresh handsOn again:Bool} {n tb base:Nat} {sss:List (List Sh)} {W:World} {args:Array Value} {ds gs:List (DataW H)} {before:List MemPlace}
  (K:Kids P (· < P.types.size)) (hz:∀ t e,t<P.types.size→P.underlying t=some (.slice e)→0<P.cellsOf e)
  (ht0:(fn.params.toList.all fun t=>decide (t<P.types.size))=true) (hm:fn.params.toList.mapM (shOf P n)=some sss) (hr:fn.resultTypes = #[tb]) (hb:P.underlying tb=some .bool) (hvars:s.vars=[])
  (hspec:∀ ds:List (DataW H),ds.length=fn.params.toList.length→s.fn H ds = { results := [.lit (.bool true)],args:=ds })
  (hval:∀ (j:Nat) t v,fn.params[j]? = some t→args[j]? = some v→Value.okWide P W .any base t v)
  (hW:DataW.Whole enc P fn.params.toList s.vars false W args.toList ds gs before)
  (h:∀ vss,zqk vss sss→zcm vss≤Rows.uptoBulkAll (ds++gs)→FnF P f (zhW P fn.params.toList vss) (.bool true)) :
  Calls P f args W fun e W'=>∃ v,e = .returned v∧s.post enc P fn false fresh handsOn again W args v W':=by
 have ht:∀ t∈fn.params.toList,t<P.types.size:=fun t h=>by simpa using List.all_eq_true.1 ht0 t h
 have hW':=hW
 obtain⟨p,q,hA,hV,hps,hfz,hnd⟩:=hW
 rw[hvars]at hV
 obtain⟨rfl,rfl⟩:gs=[]∧q=[]:=by
  cases gs with
  | nil=>exact⟨rfl,hV⟩
  | cons g gs=>simp[DataW.TrodVars]at hV
 obtain⟨vss,h1,hbk,h2,h3⟩:=zql (S:=fun b=>b<W.heap.size) (fun _ h=>h) K hz ht hm (fun j t v a b=>hval j t v (by simpa using a) (by simpa using b)) hA
 have hlen:ds.length=fn.params.toList.length:=by
  have:∀ {ts:List TypeId} {vs:List Value} {ds:List (DataW H)} {ps:List MemPlace},DataW.TrodAll enc P W 0 (fun _=>true) true ts vs ds ps→ds.length=ts.length:=by
   intro ts
   induction ts with
   | nil=>intro vs ds ps h;cases vs<;>cases ds<;>simp[DataW.TrodAll]at h ⊢
   | cons t ts ih =>
    intro vs ds ps h
    cases vs<;>cases ds<;>simp[DataW.TrodAll]at h ⊢
    obtain⟨_,_,_,h,_⟩:=h
    exact ih h
  exact this hA
 refine((h vss h1 (by simpa using hbk)).2 (fun b=>b<W.heap.size) W args (fun _ h=>h) ⟨by simpa using h2,fun j d c a b=>h3 j d c a (by simpa using b)⟩).mono fun e W' ⟨v,he,hB,hr'⟩=>?_
 generalize hvv:v=v' at hr'
 cases hr' with
 | bool b =>
  subst hvv
  exact⟨_,he,zqm hr rfl hvars (hspec _ hlen) hA (by rw[hps,List.append_nil]at hfz;exact hfz) hB (fun _ _ _=>shut_bool hb _) (okWide_bool_mk hb _) (fun sp hsp=>zjJ K hz ht hA hB hsp)⟩
end
end Go.Proofs.YtcdhlofhhcgohaaGreat
namespace Go.Proofs.YtcdhlofhhcgohaaGreat
open Go.RowKit
theorem kids : Kids Tryz.prog (· < Tryz.prog.types.size):=kids_rows (by kernel_rfl) (by kernel_rfl)
theorem full : ∀ t e,t<Tryz.prog.types.size→Tryz.prog.underlying t=some (.slice e)→0<Tryz.prog.cellsOf e:=slices_full_of Tryz.prog (by kernel_rfl)
theorem zsj : ownKnob Tryz.prog.godebug=none:=by kernel_rfl
theorem zbF {k:IntKind} {a:V} (h:HasSh a (.int k)):∃ n,a = .int k n∧(Lit.int k n).wf=true:=by
 cases h with|int _ n hw=>exact⟨n,rfl,hw⟩
theorem zdN {k:IntKind} {vs:List V} (h:ListSh vs [.int k]):∃ n,vs=[.int k n]∧(Lit.int k n).wf=true:=by
 obtain⟨hl,h⟩:=h
 match vs,hl with
 | [a],_ =>
  obtain⟨n,rfl,hw⟩:=zbF (h 0 _ _ rfl rfl)
  exact⟨n,rfl,hw⟩
theorem zeu {α:Type} {es:List Sh} {f:α→List V} {ok:α→Prop} (hf:∀ e,ListSh e es→∃ x,e=f x∧ok x) {a:V} (h:HasSh a (.slice es)) :
  ∃ l:List α,a = .slice (l.map f)∧(∀ x∈l,ok x)∧l.length≤maxLen:=by
 cases h with
 | slice xs _ hn hl hx =>
  have key:∀ xs:List (List V),(∀ e∈xs,ListSh e es)→∃ l:List α,xs=l.map f∧∀ x∈l,ok x:=by
   intro xs
   induction xs with
   | nil=>intro _;exact⟨[],rfl,by simp⟩
   | cons e xs ih =>
    intro h
    obtain⟨x,h1,h2⟩:=hf e (h e (List.mem_cons.2 (.inl rfl)))
    obtain⟨l,h3,h4⟩:=ih (fun e' he'=>h e' (List.mem_cons.2 (.inr he')))
    refine⟨x::l,by rw[List.map_cons,←h1,←h3],?_⟩
    intro y hy
    rcases List.mem_cons.1 hy with rfl|hy
    ·exact h2
    ·exact h4 y hy
  obtain⟨l,h1,h2⟩:=key xs (fun e he=>⟨hl e he,hx e he⟩)
  subst h1
  exact⟨l,rfl,h2,by simpa using hn⟩
theorem zhI {α:Type} {es:List Sh} {f:α→List V} {ok:α→Prop} (hf:∀ e,ListSh e es→∃ x,e=f x∧ok x) {vs:List V} (h:ListSh vs [.slice es]) :
  ∃ l:List α,vs=[.slice (l.map f)]∧(∀ x∈l,ok x)∧l.length≤maxLen:=by
 obtain⟨hl,h⟩:=h
 match vs,hl with
 | [a],_ =>
  obtain⟨l,rfl,h1,h2⟩:=zeu hf (h 0 _ _ rfl rfl)
  exact⟨l,rfl,h1,h2⟩
def I64 (x:Int):Prop := -9223372036854775808≤x∧x≤9223372036854775807
def U64 (x:Int):Prop:=0≤x∧x≤18446744073709551615
theorem wf_i64 {n:Int} (h:(Lit.int .i64 n).wf=true):I64 n:=by simpa[Lit.wf,IntKind.min,IntKind.max,IntKind.signed,IntKind.bits,I64]using h
theorem wf_u64 {n:Int} (h:(Lit.int .u64 n).wf=true):U64 n:=by simpa[Lit.wf,IntKind.min,IntKind.max,IntKind.signed,IntKind.bits,U64]using h
end Go.Proofs.YtcdhlofhhcgohaaGreat
namespace Go.Proofs.YtcdhlofhhcgohaaGreat
open Go.RowKit
theorem ztt {a:V} (h:HasSh a .str):∃ s,a = .str s:=by cases h with|str s hs=>exact⟨s,rfl⟩
theorem zr1 {a:V} (h:HasSh a .bool):∃ b,a = .bool b:=by cases h with|bool b=>exact⟨b,rfl⟩
theorem zn3 {vs:List V} (h:ListSh vs [.int .i64,.int .i64]):∃ w:Way,vs=wayV w∧True:=by
 obtain⟨hl,h⟩:=h
 match vs,hl with
 | [a,b],_ =>
  obtain⟨x0,rfl,_⟩:=zbF (h 0 _ _ rfl rfl)
  obtain⟨x1,rfl,_⟩:=zbF (h 1 _ _ rfl rfl)
  exact⟨⟨x0,x1⟩,rfl,trivial⟩
theorem zr2 {a:V} (h:HasSh a (.slice [.int .i64])):∃ l:List Int,a = .slice (l.map zad):=by
 obtain⟨l,h1,_,_⟩:=zeu (f:=zad) (ok:=fun _=>True) (fun e he=>by
  obtain⟨n,rfl,_⟩:=zdN he
  exact⟨n,rfl,trivial⟩) h
 exact⟨l,h1⟩
theorem zld {vs:List V} (h:ListSh vs [.int .u64,.slice [.int .i64],.str,.int .i64,.slice [.int .i64,.int .i64]]):∃ b:Bridge,vs=zaj b∧(0≤b.addr∧b.region.ways.length≤9223372036854775807):=by
 obtain⟨hl,h⟩:=h
 match vs,hl with
 | [a,b,c,d,e],_ =>
  obtain⟨x0,rfl,h0⟩:=zbF (h 0 _ _ rfl rfl)
  obtain⟨x1,rfl⟩:=zr2 (h 1 _ _ rfl rfl)
  obtain⟨x2,rfl⟩:=ztt (h 2 _ _ rfl rfl)
  obtain⟨x3,rfl,_⟩:=zbF (h 3 _ _ rfl rfl)
  obtain⟨x4,rfl,_,k⟩:=zeu (f:=wayV) (ok:=fun _=>True) (fun _=>zn3) (h 4 _ _ rfl rfl)
  exact⟨⟨x0,x1,⟨x2,x3,x4⟩⟩,rfl,(wf_u64 h0).1,by simp only[maxLen]at k;exact k⟩
theorem zn4 {vs:List V} (h:ListSh vs [.int .i64,.int .i64,.int .i64,.int .i64,.int .i64,.bool]):∃ l:Link,vs=zar l∧True:=by
 obtain⟨hl,h⟩:=h
 match vs,hl with
 | [a,b,c,d,e,g],_ =>
  obtain⟨x0,rfl,_⟩:=zbF (h 0 _ _ rfl rfl)
  obtain⟨x1,rfl,_⟩:=zbF (h 1 _ _ rfl rfl)
  obtain⟨x2,rfl,_⟩:=zbF (h 2 _ _ rfl rfl)
  obtain⟨x3,rfl,_⟩:=zbF (h 3 _ _ rfl rfl)
  obtain⟨x4,rfl,_⟩:=zbF (h 4 _ _ rfl rfl)
  obtain⟨x5,rfl⟩:=zr1 (h 5 _ _ rfl rfl)
  exact⟨⟨x0,x1,x2,x3,x4,x5⟩,rfl,trivial⟩
theorem zqn {vs:List V} (h:ListSh vs [.slice [.int .u64,.slice [.int .i64],.str,.int .i64,.slice [.int .i64,.int .i64]],.slice [.int .i64,.int .i64,.int .i64,.int .i64,.int .i64,.bool]]) :
  ∃ n:Net,vs=n.cells∧n.typed∧n.bridges.length≤maxLen∧n.links.length≤maxLen:=by
 obtain⟨hl,h⟩:=h
 match vs,hl with
 | [a,b],_ =>
  obtain⟨bs,rfl,h1,k1⟩:=zeu (fun _=>zld) (h 0 _ _ rfl rfl)
  obtain⟨ls,rfl,_,k2⟩:=zeu (fun _=>zn4) (h 1 _ _ rfl rfl)
  exact⟨⟨bs,ls⟩,rfl,⟨fun b hb=>(h1 b hb).1,fun b hb=>(h1 b hb).2⟩,k1,k2⟩
end Go.Proofs.YtcdhlofhhcgohaaGreat
namespace Go.Proofs.YtcdhlofhhcgohaaGreat
open Go.RowKit
theorem zmh {vs:List V} (h:ListSh vs [.int .i64,.int .i64,.int .i64,.int .i64]):∃ d:Doing,vs=d.cells∧True:=by
 obtain⟨hl,h⟩:=h
 match vs,hl with
 | [a,b,c,d],_ =>
  obtain⟨x0,rfl,_⟩:=zbF (h 0 _ _ rfl rfl)
  obtain⟨x1,rfl,_⟩:=zbF (h 1 _ _ rfl rfl)
  obtain⟨x2,rfl,_⟩:=zbF (h 2 _ _ rfl rfl)
  obtain⟨x3,rfl,_⟩:=zbF (h 3 _ _ rfl rfl)
  exact⟨⟨x0,x1,x2,x3⟩,rfl,trivial⟩
theorem zmi {vs:List V} (h:ListSh vs [.slice [.int .i64,.int .i64,.int .i64,.int .i64]]):∃ l:List Doing,vs=[.slice (l.map Doing.cells)]:=by
 obtain⟨l,rfl,_⟩:=zhI (fun e=>zmh) h
 exact⟨l,rfl⟩
end Go.Proofs.YtcdhlofhhcgohaaGreat
namespace Go.Proofs.YtcdhlofhhcgohaaGreat
open Go.RowKit
theorem zn5 {vs:List V} (h:ListSh vs [.int .u8]):∃ x:UInt8,vs=zak x∧True:=by
 obtain⟨n,rfl,hw⟩:=zdN h
 have h2:0≤n∧n≤255:=by simpa[Lit.wf,IntKind.min,IntKind.max,IntKind.signed,IntKind.bits]using hw
 refine⟨UInt8.ofNat n.toNat,?_,trivial⟩
 unfold zak
 congr 2
 simp
 omega
theorem zr3 {a:V} (h:HasSh a (.slice [.int .u8])):∃ l:List UInt8,a = .slice (l.map zak)∧l.length≤maxLen:=by
 obtain⟨l,h1,_,h3⟩:=zeu (fun _=>zn5) h
 exact⟨l,h1,h3⟩
theorem zqo {a:V} (h:HasSh a .bool):∃ b,a = .bool b:=by cases h with|bool b=>exact⟨b,rfl⟩
end Go.Proofs.YtcdhlofhhcgohaaGreat
namespace Go.Proofs.YtcdhlofhhcgohaaGreat
open Go.RowKit
theorem zn6 {vs:List V} (h:ListSh vs [.int .i64,.int .u64,.int .i64,.int .i64]):∃ e:Ent,vs=entV e∧True:=by
 obtain⟨hl,h⟩:=h
 match vs,hl with
 | [a,b,c,d],_ =>
  obtain⟨x0,rfl,_⟩:=zbF (h 0 _ _ rfl rfl)
  obtain⟨x1,rfl,_⟩:=zbF (h 1 _ _ rfl rfl)
  obtain⟨x2,rfl,_⟩:=zbF (h 2 _ _ rfl rfl)
  obtain⟨x3,rfl,_⟩:=zbF (h 3 _ _ rfl rfl)
  exact⟨⟨x0,x1,x2,x3⟩,rfl,trivial⟩
theorem zm4 : ∀ {xs:List (List V)} {e:List V},e∈xs→zcC e≤zcm xs
 | x::r,e,h=>by
  simp only[zcm]
  rcases List.mem_cons.1 h with rfl|h
  ·omega
  ·have:=zm4 h;omega
theorem zqp {vs:List V} (h:ListSh vs [.slice [.slice [.int .i64,.int .u64,.int .i64,.int .i64]]]) (hb:zcC vs≤1048576):∃ bs:List (List Ent),vs=[.slice (bs.map za8)]∧bs.length≤1048576∧∀ l∈bs,l.length≤1048576:=by
 obtain⟨bs,rfl,_⟩:=zhI (f:=za8) (ok:=fun _=>True) (fun e he=>by
  obtain⟨l,rfl,_⟩:=zhI (fun e=>zn6) he
  exact⟨l,rfl,trivial⟩) h
 have h1:=zjI (bs.map za8) (by simp[za8])
 simp only[zcC,V.bulk,List.length_map]at hb h1
 refine⟨bs,rfl,by omega,fun l hl=>?_⟩
 have h2:=zm4 (List.mem_map.2 ⟨l,hl,rfl⟩:za8 l∈bs.map za8)
 have h3:=zjI (l.map entV) (by simp[entV])
 simp only[za8,zcC,V.bulk,List.length_map]at h2 h3
 omega
theorem zle {vs:List V} (h:ListSh vs [.int .u64,.int .u64,.bool,.int .i64,.bool,.int .i64,.int .i64,.slice [.int .u8]]):∃ f:Frame,vs=f.cells∧f.ok:=by
 obtain⟨hl,h⟩:=h
 match vs,hl with
 | [a,b,c,d,e,g,i,j],_ =>
  obtain⟨x0,rfl,h0⟩:=zbF (h 0 _ _ rfl rfl)
  obtain⟨x1,rfl,h1⟩:=zbF (h 1 _ _ rfl rfl)
  obtain⟨x2,rfl⟩:=zqo (h 2 _ _ rfl rfl)
  obtain⟨x3,rfl,h3⟩:=zbF (h 3 _ _ rfl rfl)
  obtain⟨x4,rfl⟩:=zqo (h 4 _ _ rfl rfl)
  obtain⟨x5,rfl,h5⟩:=zbF (h 5 _ _ rfl rfl)
  obtain⟨x6,rfl,h6⟩:=zbF (h 6 _ _ rfl rfl)
  obtain⟨x7,rfl,h7⟩:=zr3 (h 7 _ _ rfl rfl)
  have k0:=wf_u64 h0
  have k1:=wf_u64 h1
  have k3:=wf_i64 h3
  have k5:=wf_i64 h5
  have k6:=wf_i64 h6
  exact⟨⟨x0,x1,x2,x3,x4,x5,x6,x7⟩,rfl,⟨k0.1,k0.2,k1.1,k1.2,k3.1,k3.2,k5.1,k5.2,k6.1,k6.2,by simp only[maxLen]at h7;exact h7⟩⟩
end Go.Proofs.YtcdhlofhhcgohaaGreat
