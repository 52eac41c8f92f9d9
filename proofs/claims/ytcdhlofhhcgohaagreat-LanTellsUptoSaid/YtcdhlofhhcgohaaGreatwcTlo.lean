/- Talk: what is done with a net leaves it a right one; what On and Play answer: mathematics. -/
import Derived.Test.YtcdhlofhhcgohaaGreatwcPlO
namespace Go.Proofs.YtcdhlofhhcgohaaGreat
open Go.RowKit
structure Mind where
 vec:Vec
 age:Int
 rootPort:Int
 ports:List Int
 roles:List Int
 calm:List Int
def Mind.cells (m:Mind):List V:=m.vec.cells++[.int .i64 m.age,.int .i64 m.rootPort,.slice (m.ports.map zad),.slice (m.roles.map zad),.slice (m.calm.map zad)]
instance : CellsI Mind.cells 9:=⟨fun _=>rfl,fun t d h=>by
 simp only[Mind.cells,Vec.cells,List.cons_append,List.nil_append,List.mem_cons,List.mem_nil_iff,or_false]at h
 rcases h with rfl|rfl|rfl|rfl|rfl|rfl|rfl|rfl|rfl<;>rfl⟩
def Mind.zero : Mind:=⟨.zero,0,0,[],[],[]⟩
def zae (l:List Mind):List V := [.slice (l.map Mind.cells)]
instance : CellsI zae 1:=⟨fun _=>rfl,fun t d h=>by
 simp only[zae,List.mem_cons,List.mem_nil_iff,or_false]at h
 subst h;rfl⟩
def zaO (t:List (List Mind)):V := .agg [.slice (t.map zae)]
def zfY (l:List Mind) (e:End):Offer:=⟨e.port,e.cost,((l[e.other.toNat]?).getD .zero).age,{ ((l[e.other.toNat]?).getD .zero).vec with port:=e.oport }⟩
def hears (ends:List End) (l:List Mind):List Offer:=ends.map (zfY l)
def zcy (r c:Int):Int:=if r=1∨r=2 then(if c<49 then c else 49)+1 else 0
def zbL (roles calm:List Int):List Int:=(List.range roles.length).map fun k=>zcy ((roles[k]?).getD 0) ((calm[k]?).getD 0)
def zdf (n:Net) (tree:Int) (i:Nat) (ends:List End) (l:List Mind):Mind :=
 let c:=zaK (idN n tree i) (hears ends l)
 let v:=c.says (idN n tree i)
 let rs:=zde ends v c.port (hears ends l) (zah n.links i)
 ⟨v,c.age,c.port,zah n.links i,rs,zbL rs ((l[i]?).getD .zero).calm⟩
def zc8 (n:Net) (tree:Int) (l:List Mind):List Mind:=(List.range l.length).map fun i=>zdf n tree i (zaL n i) l
def zc0 (n:Net) (t:List (List Mind)):List (List Mind):=(List.range t.length).map fun(k:Nat)=>zc8 n k ((t[k]?).getD [])
def zc1 (n:Net) (t:List (List Mind)):Nat→List (List Mind)
 | 0=>t
 | k+1=>zc0 n (zc1 n t k)
def mind0 (n:Net) (tree:Int) (i:Nat):Mind:=⟨⟨idN n tree i,0,idN n tree i,0⟩,0, -1,zah n.links i,(zah n.links i).map fun _=>0,(zah n.links i).map fun _=>0⟩
def start0 (n:Net) (trees:Nat):List (List Mind):=(List.range trees).map fun k:Nat=>(List.range n.bridges.length).map (mind0 n k)
structure Doing where
 kind:Int
 n:Int
 tree:Int
 value:Int
def Doing.cells (d:Doing):List V := [.int .i64 d.kind,.int .i64 d.n,.int .i64 d.tree,.int .i64 d.value]
def za9 (ps:List Int) (tree:Nat) (v:Int):List Int:=(ps++List.replicate (tree+1-ps.length) 32768).set tree v
def doS (n:Net) (d:Doing):Net×Int :=
 if d.kind=2∨d.kind=3∨d.kind=4 then
  if d.n<0∨(n.links.length:Int)≤d.n then(n,6)
  else if d.kind≠4 then(⟨n.bridges,n.links.modify d.n.toNat fun l=>{ l with up:=decide (d.kind=2) }⟩,0)
  else if d.value<1∨200000<d.value then(n,3)
  else(⟨n.bridges,n.links.modify d.n.toNat fun l=>{ l with cost:=d.value }⟩,0)
 else if d.kind=5 then
  if d.n<0∨(n.bridges.length:Int)≤d.n then(n,6)
  else if d.tree<0∨15<d.tree∨d.value<0∨61440<d.value∨d.value.tmod 4096≠0 then(n,3)
  else(⟨n.bridges.modify d.n.toNat fun b=>{ b with prios:=za9 b.prios d.tree.toNat d.value },n.links⟩,0)
 else(n,1)
def zaX : Nat→List Doing→Net→List (List Mind)→Option (Net×List (List Mind))×(Int×Nat)
 | _,[],n,t=>(some (n,t),(0,0))
 | i,d::r,n,t =>
  if d.kind=1 then
   if d.n<0∨200<d.n then(none,(3,i))else zaX (i+1) r n (zc1 n t d.n.toNat)
  else match doS n d with
   | (n',e)=>if e≠0 then(none,(e,i))else zaX (i+1) r n' t
theorem zdg {s e:Mem} {ρ:Nat→Option Nat} {g g0 ver0 ver lo len sz:Nat} {frz nw:Bool} {xs:List (List V)} (hρ:ρ g=some g0) (hs:s.at g0 = .row ver0 frz nw sz xs) (he:e.at g = .row ver frz nw sz xs):zbX s e ρ (.own g0 ver0 lo len) (.own g ver lo len):=by
 show(match ρ g with
  | some g0'=>∃ r,zbK s (.own g0 ver0 lo len)=some (g0',r)∧zbK e (.own g ver lo len)=some (g,r)
  | none=>(D.own g0 ver0 lo len) = .nil∧∃ nw sz,zbK e (.own g ver lo len)=some (g,0,0,false,nw,sz,[]))
 rw[hρ]
 refine⟨(lo,len,frz,nw,sz,xs),?_,?_⟩<;>simp only[zbK,hs,he]<;>rw[show Nat.beq _ _=true from Nat.beq_refl _]<;>rfl
theorem zc2 (rs calm:List Int):(zbL rs calm).length=rs.length:=by simp[zbL]
structure goodM (n:Net) (i:Nat) (m:Mind):Prop where
 p:m.ports=zah n.links i
 r:m.roles.length=(zah n.links i).length
 c:m.calm.length=(zah n.links i).length
 b:∀ c∈m.calm,0≤c∧c≤50
structure goodT (n:Net) (t:List (List Mind)):Prop where
 l:t.length≤4
 m:∀ l∈t,l.length=n.bridges.length∧∀ (i:Nat) m,l[i]? = some m→goodM n i m
def zbN (n:Net) (trees:Int):List (List Mind)×(Int×Nat):=if n.wrong.1≠0 then([],n.wrong)else if trees<1∨4<trees then([],(3,0))else(start0 n trees.toNat,(0,0))
end Go.Proofs.YtcdhlofhhcgohaaGreat
namespace Go.Proofs.YtcdhlofhhcgohaaGreat
open Go.RowKit
theorem zg5 (id:Int):∀ (l:List Offer) (c:Ch),((c.port = -1∧c.age=0∧c.best.root=id)∨(0≤c.port∧1≤c.age∧c.age≤20∧c.best.root<id)) →
  (((l.foldl (Ch.step id) c).port = -1∧(l.foldl (Ch.step id) c).age=0∧(l.foldl (Ch.step id) c).best.root=id)∨(0≤(l.foldl (Ch.step id) c).port∧1≤(l.foldl (Ch.step id) c).age∧(l.foldl (Ch.step id) c).age≤20∧(l.foldl (Ch.step id) c).best.root<id))
 | [],_,h=>h
 | o :: r,c,h=>by
  rw[List.foldl_cons]
  refine zg5 id r _ ?_
  unfold Ch.step
  split
  ·exact h
  ·rename_i v hv
   split
   ·exact h
   ·rename_i hn
    by_cases hq:(if c.port<0 then -1 else v.cmp c.best)<0∨((if c.port<0 then -1 else v.cmp c.best)=0∧o.port<c.port)
    ·rw[if_pos hq]
     refine .inr ⟨?_,?_,?_,?_⟩
     ·show 0≤o.port;omega
     ·show 1≤o.age+1;omega
     ·show o.age+1≤20;omega
     ·show v.root<id;omega
    ·rw[if_neg hq];exact h
structure Mind.aged (m:Mind):Prop where
 lo:0≤m.age
 hi:m.age≤20
 a:m.age=0↔m.rootPort<0
 r:m.vec.root=m.vec.bridge↔m.rootPort<0
theorem zlF (n:Net) (tree:Int) (i:Nat) (ends:List End) (l:List Mind):(zdf n tree i ends l).aged:=by
 have h:=zg5 (idN n tree i) (hears ends l) (.start (idN n tree i)) (.inl ⟨rfl,rfl,rfl⟩)
 have e:(hears ends l).foldl (Ch.step (idN n tree i)) (.start (idN n tree i))=zaK (idN n tree i) (hears ends l):=rfl
 rw[e]at h
 unfold zdf
 dsimp only[Ch.says]
 generalize zaK (idN n tree i) (hears ends l)=c at h
 rcases h with⟨h1,h2,h3⟩|⟨h1,h2,h3,h4⟩
 ·constructor<;>simp only<;>omega
 ·constructor<;>simp only<;>omega
def zpe (t:List (List Mind)):Prop:=∀ l∈t,∀ m∈l,Mind.aged m
theorem znu (n:Net) (t:List (List Mind)):zpe (zc0 n t):=fun l hl m hm=>by
 unfold zc0 at hl
 obtain⟨k,_,rfl⟩:=List.mem_map.1 hl
 unfold zc8 at hm
 obtain⟨i,_,rfl⟩:=List.mem_map.1 hm
 exact zlF _ _ _ _ _
theorem zlG (n:Net) {t:List (List Mind)} (h:zpe t):∀ k,zpe (zc1 n t k)
 | 0=>h
 | _k+1=>znu n _
theorem zg6 : ∀ (l:List Doing) (i:Nat) (n:Net) (t:List (List Mind)),zpe t→∀ r,(zaX i l n t).1=some r→zpe r.2
 | [],i,n,t,h,r,hr=>by
  rw[zaX]at hr
  injection hr with hr
  subst hr;exact h
 | d::l,i,n,t,h,r,hr=>by
  rw[zaX]at hr
  split at hr
  ·split at hr
   ·cases hr
   ·exact zg6 l _ _ _ (zlG n h _) r hr
  ·split at hr
   split at hr
   ·cases hr
   ·exact zg6 l _ _ _ h r hr
theorem zkw (n:Net) (t:List (List Mind)):∀ k,(zc1 n t k).length=t.length
 | 0=>rfl
 | k+1=>by
  rw[zc1]
  unfold zc0
  rw[List.length_map,List.length_range,zkw n t k]
end Go.Proofs.YtcdhlofhhcgohaaGreat
namespace Go.Proofs.YtcdhlofhhcgohaaGreat
def mAt (l:List Mind) (i:Nat):Mind:=(l[i]?).getD .zero
theorem zpf {l:List Mind} {i:Nat} (h:i<l.length):l[i]? = some (mAt l i):=by unfold mAt;rw[List.getElem?_eq_getElem h];rfl
section
variable {n : Net} (h : n.good) (tree : Int)
include h
end
section
variable {n : Net} (h : n.good) (tree : Int)
include h
end
end Go.Proofs.YtcdhlofhhcgohaaGreat
namespace Go.Proofs.YtcdhlofhhcgohaaGreat
open Go.RowKit
def mix {α:Type} (xs ys:List α) (k:Nat):List α:=xs.take k++ys.drop k
section
variable {α : Type} {xs ys : List α} {k : Nat} {a : α}
theorem zgo : mix xs ys 0=ys:=by simp[mix]
theorem zjd (h:xs.length=ys.length) (hk:ys.length≤k):mix xs ys k=xs:=by unfold mix;rw[List.take_of_length_le (by omega),List.drop_eq_nil_of_le hk,List.append_nil]
theorem zsW (h:xs.length=ys.length):(mix xs ys k).length=ys.length:=by unfold mix;rw[List.length_append,List.length_take,List.length_drop];omega
theorem zje (h:xs.length=ys.length):(mix xs ys k)[k]? = ys[k]? := by
 unfold mix
 by_cases hk:k<xs.length
 ·rw[List.getElem?_append_right (by rw[List.length_take];omega),List.length_take,List.getElem?_drop,show k+(k-min k xs.length)=k by omega]
 ·rw[List.getElem?_eq_none (by rw[List.length_append,List.length_take,List.length_drop];omega),List.getElem?_eq_none (by omega)]
theorem zjf (h:xs.length=ys.length) (ha:xs[k]? = some a):(mix xs ys k).set k a=mix xs ys (k+1):=by
 have hk:=(List.getElem?_eq_some_iff.1 ha).1
 unfold mix
 rw[List.set_append_right _ _ (by rw[List.length_take];omega),List.length_take,show k-min k xs.length=0 by omega,List.drop_eq_getElem_cons (by omega),List.set_cons_zero,List.take_add_one,ha,List.append_assoc]
 rfl
end
end Go.Proofs.YtcdhlofhhcgohaaGreat
namespace Go.Proofs.YtcdhlofhhcgohaaGreat
open Go.RowKit
def keyB (b:Bridge):Int×Region:=(b.addr,b.region)
def keyL (l:Link):(Int×Int)×(Int×Int):=((l.a,l.pa),(l.b,l.pb))
structure Kin (n m:Net):Prop where
 br:m.bridges.map keyB=n.bridges.map keyB
 lk:m.links.map keyL=n.links.map keyL
theorem Kin.refl (n:Net):Kin n n:=⟨rfl,rfl⟩
theorem Kin.trans {a b c:Net} (h:Kin a b) (k:Kin b c):Kin a c:=⟨k.br.trans h.br,k.lk.trans h.lk⟩
theorem Kin.symm {a b:Net} (h:Kin a b):Kin b a:=⟨h.br.symm,h.lk.symm⟩
theorem Kin.nb {n m:Net} (h:Kin n m):m.bridges.length=n.bridges.length:=by have:=congrArg List.length h.br;simpa using this
theorem Kin.nl {n m:Net} (h:Kin n m):m.links.length=n.links.length:=by have:=congrArg List.length h.lk;simpa using this
theorem Kin.ids {n m:Net} (h:Kin n m):idsR m.bridges=idsR n.bridges:=by
 have e:∀ bs:List Bridge,idsR bs=(bs.map keyB).map fun p=>zb3 p.2:=fun bs=>by unfold idsR;rw[List.map_map];rfl
 rw[e,e,h.br]
theorem Kin.ports {n m:Net} (h:Kin n m) (i:Int):zah m.links i=zah n.links i:=by
 have e:∀ ls:List Link,ls.flatMap (zd1 i)=(ls.map keyL).flatMap fun p=>(if p.1.1=i then [p.1.2]else [])++(if p.2.1=i then [p.2.2]else []):=fun ls=>by rw[List.flatMap_map];rfl
 unfold zah
 rw[e,e,h.lk]
theorem Kin.sides {n m:Net} (h:Kin n m):zbI m.links=zbI n.links:=by
 have e:∀ ls:List Link,zbI ls=(ls.map keyL).flatMap fun p=>[p.1,p.2]:=fun ls=>by unfold zbI;rw[List.flatMap_map];rfl
 rw[e,e,h.lk]
theorem zfD {α β:Type} {f:α→β} {g:α→α} (hg:∀ a,f (g a)=f a):∀ (l:List α) (k:Nat),(l.modify k g).map f=l.map f
 | [],k=>by simp
 | a::r,0=>by simp[hg]
 | a::r,k+1=>by simp[zfD hg r k]
theorem zjg (n:Net) (d:Doing):Kin n (doS n d).1:=by
 unfold doS
 repeat' split
 all_goals first
  | exact Kin.refl n
  | (refine⟨rfl,?_⟩;apply zfD;intro _;rfl)
  | (refine⟨?_,rfl⟩;apply zfD;intro _;rfl)
theorem mem_modify {α:Type} {g:α→α}:∀ {l:List α} {k:Nat} {x:α},x∈l.modify k g→x∈l∨∃ y∈l,x=g y
 | [],k,x,h=>by simp at h
 | a::r,0,x,h=>by
  simp at h
  rcases h with h|h
  ·exact .inr ⟨a,by simp,h⟩
  ·exact .inl (by simp[h])
 | a::r,k+1,x,h=>by
  simp at h
  rcases h with h|h
  ·exact .inl (by simp[h])
  ·rcases mem_modify h with h|⟨y,hy,e⟩
   ·exact .inl (by simp[h])
   ·exact .inr ⟨y,by simp[hy],e⟩
theorem Net.good.of_kin {n m:Net} (h:n.good) (k:Kin n m) (hb:∀ b∈m.bridges,b.ok) (hl:∀ l∈m.links,l.ok n.bridges.length):m.good where
 nb:=by rw[k.nb];exact h.nb
 nl:=by rw[k.nl];exact h.nl
 br:=hb
 ad:=by
  have e:∀ bs:List Bridge,bs.Pairwise (fun a b=>a.addr≠b.addr)↔(bs.map keyB).Pairwise (fun a b=>a.1≠b.1):=fun bs=>by rw[List.pairwise_map];rfl
  rw[e,k.br,←e];exact h.ad
 lk:=by rw[k.nb];exact hl
 po:=by rw[k.sides];exact h.po
theorem zlH (ps:List Int) (t:Nat) (v:Int):(za9 ps t v).length=max ps.length (t+1):=by
 unfold za9
 rw[List.length_set,List.length_append,List.length_replicate];omega
theorem znv {α:Type} {l:List α} {k:Nat} {a x:α} (h:x∈l.set k a):x∈l∨x=a:=List.mem_or_eq_of_mem_set h
theorem zlI {ps:List Int} {t:Nat} {v x:Int} (h:x∈za9 ps t v):x∈ps∨x=32768∨x=v:=by
 unfold za9 at h
 rcases znv h with h|h
 ·rcases List.mem_append.1 h with h|h
  ·exact .inl h
  ·exact .inr (.inl (List.mem_replicate.1 h).2)
 ·exact .inr (.inr h)
theorem zjh {n:Net} (h:n.good) (d:Doing) (_he:(doS n d).2=0):(doS n d).1.good:=by
 have hk:=zjg n d
 refine h.of_kin hk (fun b hb=>?_) (fun l hl=>?_)
 ·unfold doS at hb
  repeat' (split at hb)
  all_goals try exact h.br b hb
  rename_i h1 h2 h3 h4
  rcases mem_modify hb with hb|⟨c,hc,rfl⟩
  ·exact h.br b hb
  ·have ho:=h.br c hc
   refine⟨ho.a0,ho.a1,?_,fun p hp=>?_,ho.r⟩
   ·show(za9 _ _ _).length≤16
    rw[zlH]
    have:=ho.n
    omega
   ·rcases zlI hp with hp|rfl|rfl
    ·exact ho.p p hp
    ·unfold zbh;decide
    ·unfold zbh;omega
 ·unfold doS at hl
  repeat' (split at hl)
  all_goals try exact h.lk l hl
  ·rcases mem_modify hl with hl|⟨c,hc,rfl⟩
   ·exact h.lk l hl
   ·have ho:=h.lk c hc
    exact⟨ho.a0,ho.a1,ho.b0,ho.b1,ho.ne,ho.pa,ho.pb,ho.c⟩
  ·rename_i h1 h2 h3 h4
   rcases mem_modify hl with hl|⟨c,hc,rfl⟩
   ·exact h.lk l hl
   ·have ho:=h.lk c hc
    exact⟨ho.a0,ho.a1,ho.b0,ho.b1,ho.ne,ho.pa,ho.pb,by show 1≤d.value∧d.value≤200000;omega⟩
theorem zpg {n m:Net} (k:Kin n m) {i:Nat} {x:Mind} (h:goodM n i x):goodM m i x:=⟨by rw[k.ports];exact h.p,by rw[k.ports];exact h.r,by rw[k.ports];exact h.c,h.b⟩
theorem zcb {n m:Net} (k:Kin n m) {t:List (List Mind)} (h:goodT n t):goodT m t:=⟨h.l,fun l hl=>⟨by rw[k.nb];exact(h.m l hl).1,fun i x hx=>zpg k ((h.m l hl).2 i x hx)⟩⟩
theorem zph (r c:Int) (h:0≤c):0≤zcy r c∧zcy r c≤50:=by
 unfold zcy;repeat' split
 all_goals omega
theorem znw {rs cs:List Int} (h:∀ c∈cs,0≤c∧c≤50):∀ c∈zbL rs cs,0≤c∧c≤50:=fun c hc=>by
 unfold zbL at hc
 obtain⟨k,_,rfl⟩:=List.mem_map.1 hc
 refine zph _ _ ?_
 by_cases hk:k<cs.length
 ·rw[List.getElem?_eq_getElem hk];exact(h _ (List.getElem_mem hk)).1
 ·rw[List.getElem?_eq_none (by omega)];exact Int.le_refl _
theorem zlJ (n:Net) (tree:Int) (i:Nat) (ends:List End) {l:List Mind} (h:∀ m,l[i]? = some m→∀ c∈m.calm,0≤c∧c≤50):goodM n i (zdf n tree i ends l):=by
 refine⟨rfl,zek ..,?_,?_⟩
 ·show(zbL _ _).length=_
  rw[zc2];exact zek ..
 ·refine znw fun c hc=>?_
  cases hm:l[i]? with
  | none=>rw[hm]at hc;simp[Mind.zero]at hc
  | some m=>rw[hm]at hc;exact h m hm c hc
theorem znx {n:Net} {t:List (List Mind)} (h:goodT n t):goodT n (zc0 n t):=by
 refine⟨by unfold zc0;rw[List.length_map,List.length_range];exact h.l,fun l hl=>?_⟩
 unfold zc0 at hl
 obtain⟨k,hk,rfl⟩:=List.mem_map.1 hl
 have hk:=List.mem_range.1 hk
 rw[List.getElem?_eq_getElem hk,Option.getD_some]
 have hm:=h.m t[k] (List.getElem_mem hk)
 refine⟨by unfold zc8;rw[List.length_map,List.length_range];exact hm.1,fun i x hx=>?_⟩
 unfold zc8 at hx
 rw[List.getElem?_map]at hx
 obtain⟨i',hi',rfl⟩:=Option.map_eq_some_iff.1 hx
 have hi:=(List.getElem?_eq_some_iff.1 hi').1
 rw[List.length_range]at hi
 rw[List.getElem?_range hi]at hi'
 injection hi' with hi'
 subst hi'
 exact zlJ n k i _ (fun m hmi=>(hm.2 i m hmi).b)
theorem zbE {n:Net} {t:List (List Mind)} (h:goodT n t):∀ k,goodT n (zc1 n t k)
 | 0=>h
 | k+1=>znx (zbE h k)
theorem zc3 {n:Net} {trees:Nat} (ht:trees≤4):goodT n (start0 n trees):=by
 refine⟨by simpa[start0]using ht,fun l hl=>?_⟩
 unfold start0 at hl
 obtain⟨k,_,rfl⟩:=List.mem_map.1 hl
 refine⟨by simp,fun i x hx=>?_⟩
 rw[List.getElem?_map]at hx
 obtain⟨i',hi',rfl⟩:=Option.map_eq_some_iff.1 hx
 have hi:=(List.getElem?_eq_some_iff.1 hi').1
 rw[List.length_range]at hi
 rw[List.getElem?_range hi]at hi'
 injection hi' with hi'
 subst hi'
 refine⟨rfl,by simp[mind0],by simp[mind0],fun c hc=>?_⟩
 simp only[mind0,List.mem_map]at hc
 obtain⟨_,_,rfl⟩:=hc
 omega
theorem zc4 : ∀ (l:List Doing) (i:Nat) (n:Net) (t:List (List Mind)),n.good→goodT n t→∀ r,(zaX i l n t).1=some r→r.1.good∧goodT r.1 r.2∧Kin n r.1∧r.2.length=t.length∧(zaX i l n t).2=(0,0)
 | [],i,n,t,h,ht,r,hr=>by
  rw[zaX]at hr ⊢
  injection hr with hr
  subst hr;exact⟨h,ht,.refl n,rfl,rfl⟩
 | d::l,i,n,t,h,ht,r,hr=>by
  rw[zaX]at hr ⊢
  by_cases h1:d.kind=1
  ·rw[if_pos h1]at hr ⊢
   by_cases h2:d.n<0∨200<d.n
   ·rw[if_pos h2]at hr;cases hr
   ·rw[if_neg h2]at hr ⊢
    have:=zc4 l _ _ _ h (zbE ht _) r hr
    rw[zkw]at this
    exact this
  ·rw[if_neg h1]at hr ⊢
   have hg:=zjh h d
   have hk:=zjg n d
   generalize doS n d=q at hr hg hk ⊢
   obtain⟨n',e⟩:=q
   by_cases h2:e≠0
   ·simp only[if_pos h2]at hr;cases hr
   ·simp only[if_neg h2]at hr ⊢
    obtain⟨a,b,c,e1,e2⟩:=zc4 l (i+1) n' t (hg (by simpa using h2)) (zcb hk ht) r hr
    exact⟨a,b,hk.trans c,e1,e2⟩
theorem zfE : ∀ (l:List Doing) (i:Nat) (n:Net) (t:List (List Mind)),(zaX i l n t).1=none→(zaX i l n t).2.1≠0
 | [],i,n,t,h=>by rw[zaX]at h;cases h
 | d::l,i,n,t,h=>by
  rw[zaX]at h ⊢
  by_cases h1:d.kind=1
  ·rw[if_pos h1]at h ⊢
   by_cases h2:d.n<0∨200<d.n
   ·rw[if_pos h2];simp
   ·rw[if_neg h2]at h ⊢
    exact zfE l _ _ _ h
  ·rw[if_neg h1]at h ⊢
   generalize doS n d=q at h ⊢
   obtain⟨n',e⟩:=q
   by_cases h2:e≠0
   ·simp only[if_pos h2];exact h2
   ·simp only[if_neg h2]at h ⊢
    exact zfE l (i+1) n' t h
def onA (n:Net) (t:List (List Mind)) (l:List Doing):Option (Net×List (List Mind))×(Int×Nat):=if n.wrong.1≠0 then(none,n.wrong)else if 30<l.length then(none,(5,0))else zaX 0 l n t
def zdS (n:Net) (trees:Int) (l:List Doing):Option (Net×List (List Mind))×(Int×Nat):=if(zbN n trees).2.1≠0 then(none,(zbN n trees).2)else onA n (zbN n trees).1 l
def onV (r:Option (Net×List (List Mind))×(Int×Nat)):V := .tuple [(match r.1 with|some p=>p.1.v|none=>Net.v ⟨[],[]⟩),(match r.1 with|some p=>zaO p.2|none=>zaO []),zb1 r.2]
end Go.Proofs.YtcdhlofhhcgohaaGreat
