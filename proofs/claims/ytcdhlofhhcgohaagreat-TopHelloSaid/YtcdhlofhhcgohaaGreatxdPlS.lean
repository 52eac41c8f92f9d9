/- Contracts: slices.SortFunc of ends by ports; slices.Sort of numbers. -/
import Derived.Test.YtcdhlofhhcgohaaGreatxcPlX
import Derived.Test.YtcdhlofhhcgohaaGreatxcSet
import Derived.Shelf.SlLaysF0
import Derived.Shelf.SlLaysNS
import Derived.Test.YtcdhlofhhcgohaaGreatProg
import Derived.Sort.Grow
import Derived.Test.YtcdhlofhhcgohaaGreatxbNst
import Derived.Shelf.SlSortCmp.NoneTotal
import Derived.Shelf.SortG.Plain
import Derived.Shelf.SortG.SortNone
import Derived.Test.YtcdhlofhhcgohaaGreatxcPlP
namespace Go.Proofs.YtcdhlofhhcgohaaGreat
open Go.RowKit
def mix {α:Type} (xs ys:List α) (k:Nat):List α:=xs.take k++ys.drop k
section
variable {α : Type} {xs ys : List α} {k : Nat} {a : α}
theorem mix_zero : mix xs ys 0=ys:=by simp[mix]
theorem mix_all (h:xs.length=ys.length) (hk:ys.length≤k):mix xs ys k=xs:=by unfold mix;rw[List.take_of_length_le (by omega),List.drop_eq_nil_of_le hk,List.append_nil]
theorem mix_len (h:xs.length=ys.length):(mix xs ys k).length=ys.length:=by unfold mix;rw[List.length_append,List.length_take,List.length_drop];omega
theorem mix_get (h:xs.length=ys.length):(mix xs ys k)[k]? = ys[k]? := by
 unfold mix
 by_cases hk:k<xs.length
 ·rw[List.getElem?_append_right (by rw[List.length_take];omega),List.length_take,List.getElem?_drop,show k+(k-min k xs.length)=k by omega]
 ·rw[List.getElem?_eq_none (by rw[List.length_append,List.length_take,List.length_drop];omega),List.getElem?_eq_none (by omega)]
theorem mix_set (h:xs.length=ys.length) (ha:xs[k]? = some a):(mix xs ys k).set k a=mix xs ys (k+1):=by
 have hk:=(List.getElem?_eq_some_iff.1 ha).1
 unfold mix
 rw[List.set_append_right _ _ (by rw[List.length_take];omega),List.length_take,show k-min k xs.length=0 by omega,List.drop_eq_getElem_cons (by omega),List.set_cons_zero,List.take_add_one,ha,List.append_assoc]
 rfl
end
end Go.Proofs.YtcdhlofhhcgohaaGreat
namespace Go.Proofs.YtcdhlofhhcgohaaGreat
open Go.RowKit
def keyB (b:Bridge):Int×Region:=(b.addr,b.region)
def keyL (l:Link):(Int×Int)×(Int×Int):=((l.a,l.pa),(l.b,l.pb))
structure Kin (n m:Net):Prop where
 br:m.bridges.map keyB=n.bridges.map keyB
 lk:m.links.map keyL=n.links.map keyL
theorem Kin.refl (n:Net):Kin n n:=⟨rfl,rfl⟩
theorem Kin.trans {a b c:Net} (h:Kin a b) (k:Kin b c):Kin a c:=⟨k.br.trans h.br,k.lk.trans h.lk⟩
theorem Kin.nb {n m:Net} (h:Kin n m):m.bridges.length=n.bridges.length:=by have:=congrArg List.length h.br;simpa using this
theorem Kin.nl {n m:Net} (h:Kin n m):m.links.length=n.links.length:=by have:=congrArg List.length h.lk;simpa using this
theorem Kin.ids {n m:Net} (h:Kin n m):idsR m.bridges=idsR n.bridges:=by
 have e:∀ bs:List Bridge,idsR bs=(bs.map keyB).map fun p=>identR p.2:=fun bs=>by unfold idsR;rw[List.map_map];rfl
 rw[e,e,h.br]
theorem Kin.ports {n m:Net} (h:Kin n m) (i:Int):portsOf m.links i=portsOf n.links i:=by
 have e:∀ ls:List Link,ls.flatMap (portAt i)=(ls.map keyL).flatMap fun p=>(if p.1.1=i then [p.1.2]else [])++(if p.2.1=i then [p.2.2]else []):=fun ls=>by rw[List.flatMap_map];rfl
 unfold portsOf
 rw[e,e,h.lk]
theorem Kin.sides {n m:Net} (h:Kin n m):sidesP m.links=sidesP n.links:=by
 have e:∀ ls:List Link,sidesP ls=(ls.map keyL).flatMap fun p=>[p.1,p.2]:=fun ls=>by unfold sidesP;rw[List.flatMap_map];rfl
 rw[e,e,h.lk]
theorem map_modify {α β:Type} {f:α→β} {g:α→α} (hg:∀ a,f (g a)=f a):∀ (l:List α) (k:Nat),(l.modify k g).map f=l.map f
 | [],k=>by simp
 | a::r,0=>by simp[hg]
 | a::r,k+1=>by simp[map_modify hg r k]
theorem doS_kin (n:Net) (d:Doing):Kin n (doS n d).1:=by
 unfold doS
 repeat' split
 all_goals first
  | exact Kin.refl n
  | (refine⟨rfl,?_⟩;apply map_modify;intro _;rfl)
  | (refine⟨?_,rfl⟩;apply map_modify;intro _;rfl)
theorem mem_modify {α:Type} {g:α→α}:∀ {l:List α} {k:Nat} {x:α},x∈l.modify k g→x∈l∨∃ y∈l,x=g y
 | [],k,x,h=>by simp at h
 | a::r,0,x,h=>by
  simp at h
  rcases h with h|h
  ·exact .inr ⟨a,by simp,h⟩
  ·exact .inl (by simp[h])
 | a::r,k+1,x,h=>by
  simp at h
  rcases h with h|h
  ·exact .inl (by simp[h])
  ·rcases mem_modify h with h|⟨y,hy,e⟩
   ·exact .inl (by simp[h])
   ·exact .inr ⟨y,by simp[hy],e⟩
theorem Net.good.of_kin {n m:Net} (h:n.good) (k:Kin n m) (hb:∀ b∈m.bridges,b.ok) (hl:∀ l∈m.links,l.ok n.bridges.length):m.good where
 nb:=by rw[k.nb];exact h.nb
 nl:=by rw[k.nl];exact h.nl
 br:=hb
 ad:=by
  have e:∀ bs:List Bridge,bs.Pairwise (fun a b=>a.addr≠b.addr)↔(bs.map keyB).Pairwise (fun a b=>a.1≠b.1):=fun bs=>by rw[List.pairwise_map];rfl
  rw[e,k.br,←e];exact h.ad
 lk:=by rw[k.nb];exact hl
 po:=by rw[k.sides];exact h.po
theorem setPrio_len (ps:List Int) (t:Nat) (v:Int):(setPrio ps t v).length=max ps.length (t+1):=by
 unfold setPrio
 rw[List.length_set,List.length_append,List.length_replicate];omega
theorem mem_set_or {α:Type} {l:List α} {k:Nat} {a x:α} (h:x∈l.set k a):x∈l∨x=a:=List.mem_or_eq_of_mem_set h
theorem setPrio_mem {ps:List Int} {t:Nat} {v x:Int} (h:x∈setPrio ps t v):x∈ps∨x=32768∨x=v:=by
 unfold setPrio at h
 rcases mem_set_or h with h|h
 ·rcases List.mem_append.1 h with h|h
  ·exact .inl h
  ·exact .inr (.inl (List.mem_replicate.1 h).2)
 ·exact .inr (.inr h)
theorem doS_good {n:Net} (h:n.good) (d:Doing) (_he:(doS n d).2=0):(doS n d).1.good:=by
 have hk:=doS_kin n d
 refine h.of_kin hk (fun b hb=>?_) (fun l hl=>?_)
 ·unfold doS at hb
  repeat' (split at hb)
  all_goals try exact h.br b hb
  rename_i h1 h2 h3 h4
  rcases mem_modify hb with hb|⟨c,hc,rfl⟩
  ·exact h.br b hb
  ·have ho:=h.br c hc
   refine⟨ho.a0,ho.a1,?_,fun p hp=>?_,ho.r⟩
   ·show(setPrio _ _ _).length≤16
    rw[setPrio_len]
    have:=ho.n
    omega
   ·rcases setPrio_mem hp with hp|rfl|rfl
    ·exact ho.p p hp
    ·unfold prioBad;decide
    ·unfold prioBad;omega
 ·unfold doS at hl
  repeat' (split at hl)
  all_goals try exact h.lk l hl
  ·rcases mem_modify hl with hl|⟨c,hc,rfl⟩
   ·exact h.lk l hl
   ·have ho:=h.lk c hc
    exact⟨ho.a0,ho.a1,ho.b0,ho.b1,ho.ne,ho.pa,ho.pb,ho.c⟩
  ·rename_i h1 h2 h3 h4
   rcases mem_modify hl with hl|⟨c,hc,rfl⟩
   ·exact h.lk l hl
   ·have ho:=h.lk c hc
    exact⟨ho.a0,ho.a1,ho.b0,ho.b1,ho.ne,ho.pa,ho.pb,by show 1≤d.value∧d.value≤200000;omega⟩
theorem goodM_kin {n m:Net} (k:Kin n m) {i:Nat} {x:Mind} (h:goodM n i x):goodM m i x:=⟨by rw[k.ports];exact h.p,by rw[k.ports];exact h.r,by rw[k.ports];exact h.c,h.b⟩
theorem goodT_kin {n m:Net} (k:Kin n m) {t:List (List Mind)} (h:goodT n t):goodT m t:=⟨h.l,fun l hl=>⟨by rw[k.nb];exact(h.m l hl).1,fun i x hx=>goodM_kin k ((h.m l hl).2 i x hx)⟩⟩
theorem calmOf_in (r c:Int) (h:0≤c):0≤calmOf r c∧calmOf r c≤50:=by
 unfold calmOf;repeat' split
 all_goals omega
theorem calmsOf_in {rs cs:List Int} (h:∀ c∈cs,0≤c∧c≤50):∀ c∈calmsOf rs cs,0≤c∧c≤50:=fun c hc=>by
 unfold calmsOf at hc
 obtain⟨k,_,rfl⟩:=List.mem_map.1 hc
 refine calmOf_in _ _ ?_
 by_cases hk:k<cs.length
 ·rw[List.getElem?_eq_getElem hk];exact(h _ (List.getElem_mem hk)).1
 ·rw[List.getElem?_eq_none (by omega)];exact Int.le_refl _
theorem mindOf_good (n:Net) (tree:Int) (i:Nat) (ends:List End) {l:List Mind} (h:∀ m,l[i]? = some m→∀ c∈m.calm,0≤c∧c≤50):goodM n i (mindOf n tree i ends l):=by
 refine⟨rfl,rolesP_len ..,?_,?_⟩
 ·show(calmsOf _ _).length=_
  rw[calmsOf_len];exact rolesP_len ..
 ·refine calmsOf_in fun c hc=>?_
  cases hm:l[i]? with
  | none=>rw[hm]at hc;simp[Mind.zero]at hc
  | some m=>rw[hm]at hc;exact h m hm c hc
theorem tickN_good {n:Net} {t:List (List Mind)} (h:goodT n t):goodT n (tickN n t):=by
 refine⟨by unfold tickN;rw[List.length_map,List.length_range];exact h.l,fun l hl=>?_⟩
 unfold tickN at hl
 obtain⟨k,hk,rfl⟩:=List.mem_map.1 hl
 have hk:=List.mem_range.1 hk
 rw[List.getElem?_eq_getElem hk,Option.getD_some]
 have hm:=h.m t[k] (List.getElem_mem hk)
 refine⟨by unfold tickT;rw[List.length_map,List.length_range];exact hm.1,fun i x hx=>?_⟩
 unfold tickT at hx
 rw[List.getElem?_map]at hx
 obtain⟨i',hi',rfl⟩:=Option.map_eq_some_iff.1 hx
 have hi:=(List.getElem?_eq_some_iff.1 hi').1
 rw[List.length_range]at hi
 rw[List.getElem?_range hi]at hi'
 injection hi' with hi'
 subst hi'
 exact mindOf_good n k i _ (fun m hmi=>(hm.2 i m hmi).b)
theorem ticksN_good {n:Net} {t:List (List Mind)} (h:goodT n t):∀ k,goodT n (ticksN n t k)
 | 0=>h
 | k+1=>tickN_good (ticksN_good h k)
theorem start0_good {n:Net} {trees:Nat} (ht:trees≤4):goodT n (start0 n trees):=by
 refine⟨by simpa[start0]using ht,fun l hl=>?_⟩
 unfold start0 at hl
 obtain⟨k,_,rfl⟩:=List.mem_map.1 hl
 refine⟨by simp,fun i x hx=>?_⟩
 rw[List.getElem?_map]at hx
 obtain⟨i',hi',rfl⟩:=Option.map_eq_some_iff.1 hx
 have hi:=(List.getElem?_eq_some_iff.1 hi').1
 rw[List.length_range]at hi
 rw[List.getElem?_range hi]at hi'
 injection hi' with hi'
 subst hi'
 refine⟨rfl,by simp[mind0],by simp[mind0],fun c hc=>?_⟩
 simp only[mind0,List.mem_map]at hc
 obtain⟨_,_,rfl⟩:=hc
 omega
theorem onLoop_good : ∀ (l:List Doing) (i:Nat) (n:Net) (t:List (List Mind)),n.good→goodT n t→∀ r,(onLoop i l n t).1=some r→r.1.good∧goodT r.1 r.2∧Kin n r.1∧r.2.length=t.length∧(onLoop i l n t).2=(0,0)
 | [],i,n,t,h,ht,r,hr=>by
  rw[onLoop]at hr ⊢
  injection hr with hr
  subst hr;exact⟨h,ht,.refl n,rfl,rfl⟩
 | d::l,i,n,t,h,ht,r,hr=>by
  rw[onLoop]at hr ⊢
  by_cases h1:d.kind=1
  ·rw[if_pos h1]at hr ⊢
   by_cases h2:d.n<0∨200<d.n
   ·rw[if_pos h2]at hr;cases hr
   ·rw[if_neg h2]at hr ⊢
    have:=onLoop_good l _ _ _ h (ticksN_good ht _) r hr
    rw[ticks_len]at this
    exact this
  ·rw[if_neg h1]at hr ⊢
   have hg:=doS_good h d
   have hk:=doS_kin n d
   generalize doS n d=q at hr hg hk ⊢
   obtain⟨n',e⟩:=q
   by_cases h2:e≠0
   ·simp only[if_pos h2]at hr;cases hr
   ·simp only[if_neg h2]at hr ⊢
    obtain⟨a,b,c,e1,e2⟩:=onLoop_good l (i+1) n' t (hg (by simpa using h2)) (goodT_kin hk ht) r hr
    exact⟨a,b,hk.trans c,e1,e2⟩
theorem onLoop_bad : ∀ (l:List Doing) (i:Nat) (n:Net) (t:List (List Mind)),(onLoop i l n t).1=none→(onLoop i l n t).2.1≠0
 | [],i,n,t,h=>by rw[onLoop]at h;cases h
 | d::l,i,n,t,h=>by
  rw[onLoop]at h ⊢
  by_cases h1:d.kind=1
  ·rw[if_pos h1]at h ⊢
   by_cases h2:d.n<0∨200<d.n
   ·rw[if_pos h2];simp
   ·rw[if_neg h2]at h ⊢
    exact onLoop_bad l _ _ _ h
  ·rw[if_neg h1]at h ⊢
   generalize doS n d=q at h ⊢
   obtain⟨n',e⟩:=q
   by_cases h2:e≠0
   ·simp only[if_pos h2];exact h2
   ·simp only[if_neg h2]at h ⊢
    exact onLoop_bad l (i+1) n' t h
def onA (n:Net) (t:List (List Mind)) (l:List Doing):Option (Net×List (List Mind))×(Int×Nat):=if n.wrong.1≠0 then(none,n.wrong)else if 30<l.length then(none,(5,0))else onLoop 0 l n t
def playA (n:Net) (trees:Int) (l:List Doing):Option (Net×List (List Mind))×(Int×Nat):=if(startA n trees).2.1≠0 then(none,(startA n trees).2)else onA n (startA n trees).1 l
def onV (r:Option (Net×List (List Mind))×(Int×Nat)):V := .tuple [(match r.1 with|some p=>p.1.v|none=>Net.v ⟨[],[]⟩),(match r.1 with|some p=>talkV p.2|none=>talkV []),faultV r.2]
end Go.Proofs.YtcdhlofhhcgohaaGreat
namespace Go.Proofs.YtcdhlofhhcgohaaGreat
def rAt (m:Mind) (j:Nat):Int:=(m.roles[j]?).getD 0
def cAt (m:Mind) (j:Nat):Int:=(m.calm[j]?).getD 0
def ixI (p:Int):List Int→Option Nat
 | []=>none
 | x::r=>if x=p then some 0 else(ixI p r).map (· + 1)
theorem ixI_some {p:Int}:∀ {l:List Int} {k:Nat},ixI p l=some k→l[k]? = some p
 | [],k,h=>by cases h
 | x::r,k,h=>by
  unfold ixI at h
  split at h
  ·rename_i e
   injection h with h
   subst h;rw[e];rfl
  ·obtain⟨k',hk,rfl⟩:=Option.map_eq_some_iff.1 h
   rw[List.getElem?_cons_succ];exact ixI_some hk
theorem ixI_none {p:Int}:∀ {l:List Int},ixI p l=none→p∉l
 | [],_,h=>by simp at h
 | x::r,h,hm=>by
  unfold ixI at h
  split at h
  ·cases h
  ·rename_i hne
   have:=Option.map_eq_none_iff.1 h
   rcases List.mem_cons.1 hm with e|e
   ·exact hne e.symm
   ·exact ixI_none this e
def opensM (m:Mind) (p:Int):Bool:=match ixI p m.ports with
 | none=>false
 | some k=>decide (k<m.calm.length) && decide (50≤cAt m k)
def opensT (t:List (List Mind)) (tree bridge port:Int):Bool :=
 if tree<0∨(t.length:Int)≤tree∨bridge<0 then false else match (t[tree.toNat]?).getD []with
  | l=>if(l.length:Int)≤bridge then false else opensM (mAt l bridge.toNat) port
theorem mindOf_calm {n:Net} {tree:Int} {i:Nat} {ends:List End} {l:List Mind} {j:Nat} (hj:j<(portsOf n.links i).length):cAt (mindOf n tree i ends l) j=calmOf (rAt (mindOf n tree i ends l) j) (cAt (mAt l i) j):=by
 show((calmsOf _ _)[j]?).getD 0=_
 unfold calmsOf
 rw[List.getElem?_map,List.getElem?_range (by rw[rolesP_len];exact hj)]
 rfl
theorem calm_tk {n:Net} {tree:Int} {l:List Mind} {k i j:Nat} (hi:i<l.length) (hj:j<(portsOf n.links i).length):cAt (mAt (tkN n tree l (k+1)) i) j=calmOf (rAt (mAt (tkN n tree l (k+1)) i) j) (cAt (mAt (tkN n tree l k) i) j):=by
 rw[tkN_at hi];exact mindOf_calm hj
theorem calmOf_pos {r c:Int} (h:0<calmOf r c):r=1∨r=2:=by
 unfold calmOf at h
 split at h
 ·assumption
 ·omega
theorem calmOf_le (r c:Int) (h:0≤c):calmOf r c≤c+1∧calmOf r c≤50∧0≤calmOf r c:=by
 unfold calmOf;repeat' split
 all_goals omega
theorem calm_back {n:Net} {tree:Int} {l:List Mind} {i j:Nat} (hi:i<l.length) (hj:j<(portsOf n.links i).length) (h0:0≤cAt (mAt l i) j):∀ k,0≤cAt (mAt (tkN n tree l k) i) j∧cAt (mAt (tkN n tree l k) i) j≤cAt (mAt l i) j+k
 | 0=>⟨h0,by show cAt (mAt l i) j≤_;omega⟩
 | k+1=>by
  have ih:=calm_back (tree:=tree) hi hj h0 k
  rw[calm_tk hi hj]
  have:=calmOf_le (rAt (mAt (tkN n tree l (k+1)) i) j) _ ih.1
  omega
theorem calm_on {n:Net} {tree:Int} {l:List Mind} {i j:Nat} (hi:i<l.length) (hj:j<(portsOf n.links i).length) {a:Nat} (h0:0≤cAt (mAt (tkN n tree l a) i) j) (hr:∀ s,rAt (mAt (tkN n tree l (a+(s+1))) i) j=1∨rAt (mAt (tkN n tree l (a+(s+1))) i) j=2) :
  ∀ s:Nat,(if(s:Int)<50 then(s:Int)else 50)≤cAt (mAt (tkN n tree l (a+s)) i) j
 | 0=>by simpa using h0
 | s+1=>by
  have ih:=calm_on hi hj h0 hr s
  have:=hr s
  rw[show a+(s+1)=(a+s)+1 by omega]at this ⊢
  rw[calm_tk hi hj]
  unfold calmOf
  rw[if_pos this]
  split at ih<;>split<;>split<;>omega
section
variable {n : Net} (h : n.good) (tree : Int)
include h
theorem opens_at {l:List Mind} (hl:l.length=n.bridges.length) (hc:∀ i j,0≤cAt (mAt l i) j) {i:Nat} (hi:i<n.bridges.length) {T:Nat} (hT:90≤T) {p:Int} (hp:p∈portsOf n.links i) :
  opensM (mAt (tkN n tree l T) i) p=decide (roleF n tree i p=1∨roleF n tree i p=2):=by
 have st:=settle_roles h tree hl hi (T:=T) (by omega)
 unfold opensM
 rw[st.ports]
 cases hx:ixI p (portsOf n.links i)with
 | none=>exact absurd hp (ixI_none hx)
 | some k =>
  have hk:=ixI_some hx
  have hkl:=(List.getElem?_eq_some_iff.1 hk).1
  have hr:∀ T,33≤T→rAt (mAt (tkN n tree l T) i) k=roleF n tree i p:=fun T hT=>by
   have st:=settle_roles h tree hl hi (T:=T) hT
   unfold rAt
   rw[st.roles,List.getElem?_map,hk];rfl
  have hlen:k<(mAt (tkN n tree l T) i).calm.length:=by
   obtain⟨T',rfl⟩:∃ T',T=T'+1:=⟨T-1,by omega⟩
   rw[tkN_at (by omega)]
   show k<(calmsOf _ _).length
   rw[calmsOf_len,rolesP_len];exact hkl
  simp only[decide_eq_true hlen,Bool.true_and]
  by_cases hq:roleF n tree i p=1∨roleF n tree i p=2
  ·rw[decide_eq_true hq]
   have:=calm_on (n:=n) (tree:=tree) (l:=l) (i:=i) (j:=k) (by omega) hkl (a:=33) (calm_back (by omega) hkl (hc i k) 33).1 (fun s=>by rw[hr _ (by omega)];exact hq) (T-33)
   rw[show 33+(T-33)=T by omega,if_neg (by omega)]at this
   exact decide_eq_true this
  ·rw[decide_eq_false hq]
   obtain⟨T',rfl⟩:∃ T',T=T'+1:=⟨T-1,by omega⟩
   rw[calm_tk (by omega) hkl,hr _ (by omega)]
   unfold calmOf
   rw[if_neg hq]
   rfl
end
end Go.Proofs.YtcdhlofhhcgohaaGreat
namespace Go.Proofs.YtcdhlofhhcgohaaGreat
open Go.Shelf
def sortEnds_ren : Go.Shelf.Ren:=⟨fun|6=>101|15=>133|14=>134|28=>160|29=>161|20=>162|21=>163|22=>164|23=>165|24=>166|25=>167|26=>168|27=>169|46=>195|47=>190|48=>191|49=>196|50=>197|57=>202|n=>n,fun|22=>178|24=>180|25=>182|3=>3|39=>150|0=>0|53=>227|55=>43|4=>4|46=>232|45=>231|50=>190|5=>5|9=>9|66=>265|70=>269|76=>274|77=>275|n=>n,fun|n=>n⟩
theorem sortEnds : Go.Proofs.SlLaysF0.n6 Tryz.prog sortEnds_ren := {
 mixed:=by kernel_rfl
 f6:=⟨Tryz.f101.name,by decide,Tryz.func101.trans (congrArg some (by kernel_rfl))⟩
 f14:=⟨Tryz.f134.name,by decide,Tryz.func134.trans (congrArg some (by kernel_rfl))⟩
 f15:=Tryz.func133.trans (congrArg some (by kernel_rfl))
 f20:=⟨Tryz.f162.name,by decide,Tryz.func162.trans (congrArg some (by kernel_rfl))⟩
 f21:=⟨Tryz.f163.name,by decide,Tryz.func163.trans (congrArg some (by kernel_rfl))⟩
 f22:=⟨Tryz.f164.name,by decide,Tryz.func164.trans (congrArg some (by kernel_rfl))⟩
 f23:=⟨Tryz.f165.name,by decide,Tryz.func165.trans (congrArg some (by kernel_rfl))⟩
 f24:=⟨Tryz.f166.name,by decide,Tryz.func166.trans (congrArg some (by kernel_rfl))⟩
 f25:=⟨Tryz.f167.name,by decide,Tryz.func167.trans (congrArg some (by kernel_rfl))⟩
 f26:=⟨Tryz.f168.name,by decide,Tryz.func168.trans (congrArg some (by kernel_rfl))⟩
 f27:=⟨Tryz.f169.name,by decide,Tryz.func169.trans (congrArg some (by kernel_rfl))⟩
 f28:=Tryz.func160.trans (congrArg some (by kernel_rfl))
 f29:=Tryz.func161.trans (congrArg some (by kernel_rfl))
 f46:=⟨Tryz.f195.name,by decide,Tryz.func195.trans (congrArg some (by kernel_rfl))⟩
 f47:=Tryz.func190.trans (congrArg some (by kernel_rfl))
 f48:=Tryz.func191.trans (congrArg some (by kernel_rfl))
 f49:=⟨Tryz.f196.name,by decide,Tryz.func196.trans (congrArg some (by kernel_rfl))⟩
 f50:=⟨Tryz.f197.name,by decide,Tryz.func197.trans (congrArg some (by kernel_rfl))⟩
 f57:=⟨Tryz.f202.name,by decide,Tryz.func202.trans (congrArg some (by kernel_rfl))⟩
 t0:=Tryz.underlying0
 a0:=Tryz.isAgg0
 z0:=Tryz.sizeOf0
 v0:=Tryz.zeroValue0
 t3:=Tryz.underlying3
 a3:=Tryz.isAgg3
 z3:=Tryz.sizeOf3
 v3:=Tryz.zeroValue3
 t4:=Tryz.underlying4
 a4:=Tryz.isAgg4
 z4:=Tryz.sizeOf4
 v4:=Tryz.zeroValue4
 t5:=Tryz.underlying5
 a5:=Tryz.isAgg5
 z5:=Tryz.sizeOf5
 v5:=Tryz.zeroValue5
 t9:=Tryz.underlying9
 a9:=Tryz.isAgg9
 z9:=Tryz.sizeOf9
 v9:=Tryz.zeroValue9
 t22:=Tryz.underlying178
 a22:=Tryz.isAgg178
 z22:=Tryz.sizeOf178
 v22:=Tryz.zeroValue178
 t25:=Tryz.underlying182
 a25:=Tryz.isAgg182
 z25:=Tryz.sizeOf182
 v25:=Tryz.zeroValue182
 t39:=Tryz.underlying150
 a39:=Tryz.isAgg150
 z39:=Tryz.sizeOf150
 v39:=Tryz.zeroValue150
 t45:=Tryz.underlying231
 a45:=Tryz.isAgg231
 z45:=Tryz.sizeOf231
 v45:=Tryz.zeroValue231
 t46:=Tryz.underlying232
 a46:=Tryz.isAgg232
 z46:=Tryz.sizeOf232
 v46:=Tryz.zeroValue232
 t50:=Tryz.underlying190
 a50:=Tryz.isAgg190
 z50:=Tryz.sizeOf190
 v50:=Tryz.zeroValue190
 t53:=Tryz.underlying227
 a53:=Tryz.isAgg227
 z53:=Tryz.sizeOf227
 v53:=Tryz.zeroValue227
 t55:=Tryz.underlying43
 a55:=Tryz.isAgg43
 z55:=Tryz.sizeOf43
 v55:=Tryz.zeroValue43
 t66:=Tryz.underlying265
 a66:=Tryz.isAgg265
 z66:=Tryz.sizeOf265
 v66:=Tryz.zeroValue265
 t70:=Tryz.underlying269
 a70:=Tryz.isAgg269
 z70:=Tryz.sizeOf269
 v70:=Tryz.zeroValue269
 t76:=Tryz.underlying274
 a76:=Tryz.isAgg274
 z76:=Tryz.sizeOf274
 v76:=Tryz.zeroValue274
 t77:=Tryz.underlying275
 a77:=Tryz.isAgg275
 z77:=Tryz.sizeOf275
 v77:=Tryz.zeroValue275 }
def sortInts_ren : Go.Shelf.Ren:=⟨fun|53=>89|64=>133|63=>132|78=>160|79=>161|70=>151|71=>152|72=>153|73=>154|74=>155|75=>156|59=>157|76=>158|77=>159|88=>189|89=>190|90=>191|91=>192|92=>193|68=>194|96=>201|n=>n,fun|22=>57|23=>3|3=>3|51=>150|0=>0|67=>227|69=>43|4=>4|61=>232|60=>231|44=>190|5=>5|9=>9|75=>265|79=>269|83=>274|84=>275|n=>n,fun|n=>n⟩
theorem sortInts : Go.Proofs.SlLaysN.n53 Tryz.prog sortInts_ren := {
 mixed:=by kernel_rfl
 f53:=⟨Tryz.f89.name,by decide,Tryz.func89.trans (congrArg some (by kernel_rfl))⟩
 f59:=⟨Tryz.f157.name,by decide,Tryz.func157.trans (congrArg some (by kernel_rfl))⟩
 f63:=⟨Tryz.f132.name,by decide,Tryz.func132.trans (congrArg some (by kernel_rfl))⟩
 f64:=Tryz.func133.trans (congrArg some (by kernel_rfl))
 f68:=⟨Tryz.f194.name,by decide,Tryz.func194.trans (congrArg some (by kernel_rfl))⟩
 f70:=⟨Tryz.f151.name,by decide,Tryz.func151.trans (congrArg some (by kernel_rfl))⟩
 f71:=⟨Tryz.f152.name,by decide,Tryz.func152.trans (congrArg some (by kernel_rfl))⟩
 f72:=⟨Tryz.f153.name,by decide,Tryz.func153.trans (congrArg some (by kernel_rfl))⟩
 f73:=⟨Tryz.f154.name,by decide,Tryz.func154.trans (congrArg some (by kernel_rfl))⟩
 f74:=⟨Tryz.f155.name,by decide,Tryz.func155.trans (congrArg some (by kernel_rfl))⟩
 f75:=⟨Tryz.f156.name,by decide,Tryz.func156.trans (congrArg some (by kernel_rfl))⟩
 f76:=⟨Tryz.f158.name,by decide,Tryz.func158.trans (congrArg some (by kernel_rfl))⟩
 f77:=⟨Tryz.f159.name,by decide,Tryz.func159.trans (congrArg some (by kernel_rfl))⟩
 f78:=Tryz.func160.trans (congrArg some (by kernel_rfl))
 f79:=Tryz.func161.trans (congrArg some (by kernel_rfl))
 f88:=⟨Tryz.f189.name,by decide,Tryz.func189.trans (congrArg some (by kernel_rfl))⟩
 f89:=Tryz.func190.trans (congrArg some (by kernel_rfl))
 f90:=Tryz.func191.trans (congrArg some (by kernel_rfl))
 f91:=⟨Tryz.f192.name,by decide,Tryz.func192.trans (congrArg some (by kernel_rfl))⟩
 f92:=⟨Tryz.f193.name,by decide,Tryz.func193.trans (congrArg some (by kernel_rfl))⟩
 f96:=⟨Tryz.f201.name,by decide,Tryz.func201.trans (congrArg some (by kernel_rfl))⟩
 t0:=Tryz.underlying0
 a0:=Tryz.isAgg0
 z0:=Tryz.sizeOf0
 v0:=Tryz.zeroValue0
 t3:=Tryz.underlying3
 a3:=Tryz.isAgg3
 z3:=Tryz.sizeOf3
 v3:=Tryz.zeroValue3
 t4:=Tryz.underlying4
 a4:=Tryz.isAgg4
 z4:=Tryz.sizeOf4
 v4:=Tryz.zeroValue4
 t5:=Tryz.underlying5
 a5:=Tryz.isAgg5
 z5:=Tryz.sizeOf5
 v5:=Tryz.zeroValue5
 t9:=Tryz.underlying9
 a9:=Tryz.isAgg9
 z9:=Tryz.sizeOf9
 v9:=Tryz.zeroValue9
 t22:=Tryz.underlying57
 a22:=Tryz.isAgg57
 z22:=Tryz.sizeOf57
 v22:=Tryz.zeroValue57
 t23:=Tryz.underlying3
 a23:=Tryz.isAgg3
 z23:=Tryz.sizeOf3
 v23:=Tryz.zeroValue3
 t44:=Tryz.underlying190
 a44:=Tryz.isAgg190
 z44:=Tryz.sizeOf190
 v44:=Tryz.zeroValue190
 t51:=Tryz.underlying150
 a51:=Tryz.isAgg150
 z51:=Tryz.sizeOf150
 v51:=Tryz.zeroValue150
 t60:=Tryz.underlying231
 a60:=Tryz.isAgg231
 z60:=Tryz.sizeOf231
 v60:=Tryz.zeroValue231
 t61:=Tryz.underlying232
 a61:=Tryz.isAgg232
 z61:=Tryz.sizeOf232
 v61:=Tryz.zeroValue232
 t67:=Tryz.underlying227
 a67:=Tryz.isAgg227
 z67:=Tryz.sizeOf227
 v67:=Tryz.zeroValue227
 t69:=Tryz.underlying43
 a69:=Tryz.isAgg43
 z69:=Tryz.sizeOf43
 v69:=Tryz.zeroValue43
 t75:=Tryz.underlying265
 a75:=Tryz.isAgg265
 z75:=Tryz.sizeOf265
 v75:=Tryz.zeroValue265
 t79:=Tryz.underlying269
 a79:=Tryz.isAgg269
 z79:=Tryz.sizeOf269
 v79:=Tryz.zeroValue269
 t83:=Tryz.underlying274
 a83:=Tryz.isAgg274
 z83:=Tryz.sizeOf274
 v83:=Tryz.zeroValue274
 t84:=Tryz.underlying275
 a84:=Tryz.isAgg275
 z84:=Tryz.sizeOf275
 v84:=Tryz.zeroValue275 }
end Go.Proofs.YtcdhlofhhcgohaaGreat
namespace Go.Proofs.YtcdhlofhhcgohaaGreat
open Go.RowKit Go.Sort
theorem heap_map (w:World) (n b:Nat) (φ:Array Value→Array Value) (k:Nat):(mapBlock (Sort.ahead w n) b φ).heap[k]? = if b=k then(w.heap[k]?).map (onCells φ)else w.heap[k]? := by
 show(w.heap.modify b (onCells φ))[k]? = _
 rw[Array.getElem?_modify]
theorem step_map {α:Type} {f:α→List V} {C:Cf} {m:Mem} {g b ver sz n:Nat} {nw:Bool} {us us':List α} [hf:CellsI f sz] (hm:HoldsM C m) (hg:m.at g = .row ver false nw sz (us.map f)) (hi:C.ι g=some b) (hl:us'.length=us.length)
  (hint:∀ a,∀ d∈f a,∃ k x,d = .int k x) (φ:Array Value→Array Value) (hs:∀ arr,(φ arr).size=arr.size)
  (hφ:∀ (arr:Array Value) (i j:Nat) (a:α) (d:V),us.length*sz≤arr.size→us'[i]? = some a→(f a)[j]? = some d→(φ arr)[i*sz+j]? = some d.val) :
  Step C m { C with w:=mapBlock (Sort.ahead C.w n) b φ } ((g,.row ver false nw sz (us'.map f))::m):=by
 have hb:=hm.box g
 rw[hg]at hb
 have hb':RowAt C b false nw sz (us.map f):=by rw[hi]at hb;exact hb
 obtain⟨arr,T,fz,h1,h2,h3,h4,h5,h6,h7⟩:=hb'
 have hnew:(mapBlock (Sort.ahead C.w n) b φ).heap[b]? = some (.cells (φ arr) T fz):=by rw[heap_map,if_pos rfl,h1];rfl
 refine Step.write hm (by rw[hg];rfl) hi rfl rfl rfl (by show(C.w.heap.modify b _).size=_;simp) (fun k hk=>by rw[heap_map,if_neg (Ne.symm hk)]) ?_ ?_ ?_ ?_ (fun hd hslot=>?_)
 ·rintro v0 lo len v ⟨ver',frz,nw',sz',xs,e1,e2,e3,e4⟩
  rw[hg]at e1
  injection e1 with z1 z2 z3 z4 z5
  subst z1 z2 z3 z4 z5
  refine⟨ver,false,nw,sz,us'.map f,Mem.at_cons_same _ _ _,e2,e3,fun hv=>?_⟩
  obtain⟨q1,q2⟩:=e4 hv
  refine⟨by simpa[hl]using q1,?_⟩
  unfold OwnV at *
  show(match C.ι g with|none=>_|some b=>_)
  rw[hi]at q2 ⊢
  obtain⟨cap,arr1,T1,fz1,y1,y2,y3,y4⟩:=q2
  rw[h1]at y2
  injection y2 with y2
  injection y2 with y5 y6 y7
  subst y5 y6 y7
  exact⟨cap,φ arr,T,fz,y1,hnew,by rw[hs];exact y3,y4⟩
 ·rintro off v ⟨_,_,_,_,h,_⟩;rw[hg]at h;cases h
 ·rintro v0 i off v ⟨ver',frz,nw',sz',xs,e1,e2,e3,e4⟩
  rw[hg]at e1
  injection e1 with z1 z2 z3 z4 z5
  subst z1 z2 z3 z4 z5
  refine⟨ver,false,nw,sz,us'.map f,Mem.at_cons_same _ _ _,e2,e3,fun hv=>?_⟩
  obtain⟨q1,q2⟩:=e4 hv
  exact⟨by simpa[hl]using q1,q2⟩
 ·rintro v ⟨_,_,_,_,h,_⟩;rw[hg]at h;cases h
 ·refine⟨φ arr,T,fz,hnew,⟨fun i hi=>h2.1 i (by rwa[hs]at hi),h2.2⟩,by rw[hs];simpa[hl]using h3,fun i e he=>?_,fun i j e d he hd=>?_,fun i j e d c he hd hc=>?_,fun h=>by cases h⟩
  ·rw[List.getElem?_map]at he
   obtain⟨a,_,rfl⟩:=Option.map_eq_some_iff.1 he
   exact hf.len a
  ·rw[List.getElem?_map]at he
   obtain⟨a,_,rfl⟩:=Option.map_eq_some_iff.1 he
   exact hf.one a d (List.mem_of_getElem? hd)
  ·rw[List.getElem?_map]at he
   obtain⟨a,ha,rfl⟩:=Option.map_eq_some_iff.1 he
   have:=hφ arr i j a d (by simpa using h3) ha hd
   rw[this]at hc
   injection hc with hc
   subst hc
   obtain⟨k,x,rfl⟩:=hint a d (List.mem_of_getElem? hd)
   exact Rd.int k x
theorem step_grow {C:Cf} {m:Mem} (os:Array Obj) (hm:HoldsM C m):∃ C',C'.w=grow C.w os∧Step C m C' m:=by
 have hw:Grew C.w (grow C.w os):=⟨rfl,rfl,rfl,by show _≤(C.w.heap++os).size;simp,fun b hb=>by
  show(C.w.heap++os)[b]? = _
  rw[Array.getElem?_append_left hb]⟩
 exact⟨_,rfl,step_dat (w:=grow C.w os) (fun _=>False) hm hw (fun _ h=>h.elim)⟩
theorem row_holds {α:Type} {f:α→List V} {C:Cf} {b sz:Nat} {nw:Bool} {us:List α} (hr:RowAt C b false nw sz (us.map f)) (hsz:0<sz) [hf:CellsI f sz] (hint:∀ a,∀ d∈f a,∃ k x,d = .int k x) {t:Nat} (ht:t<us.length*sz) :
  ∃ a d,us[t / sz]? = some a∧(f a)[t % sz]? = some d∧C.w.cell? ⟨b,t,none⟩=some d.val∧C.w.frozen? ⟨b,t,none⟩=false:=by
 obtain⟨arr,T,fz,h1,h2,h3,h4,h5,h6,h7⟩:=hr
 have hi:t / sz<us.length:=Nat.div_lt_of_lt_mul (by rw[Nat.mul_comm];exact ht)
 have hj:t % sz<sz:=Nat.mod_lt _ hsz
 have hta:t<arr.size:=by simp only[List.length_map]at h3;omega
 have ha:us[t / sz]? = some us[t / sz]:=List.getElem?_eq_getElem hi
 generalize us[t / sz]=a at ha
 have hd:(f a)[t % sz]? = some ((f a)[t % sz]'(by rw[hf.len];exact hj)):=List.getElem?_eq_getElem _
 generalize (f a)[t % sz]'(by rw[hf.len];exact hj)=d at hd
 have he:t / sz*sz+t % sz=t:=by rw[Nat.mul_comm];exact Nat.div_add_mod t sz
 refine⟨a,d,ha,hd,?_,?_⟩
 ·have hc:arr[t]? = some arr[t]:=Array.getElem?_eq_getElem hta
  have hr:=h6 (t / sz) (t % sz) (f a) d arr[t] (by rw[List.getElem?_map,ha];rfl) hd (by rw[he];exact hc)
  obtain⟨k,x,rfl⟩:=hint a d (List.mem_of_getElem? hd)
  have:=rv_int hr
  rw[cell_of_arr h1,hc,this];rfl
 ·unfold World.frozen?
  rw[h1]
  have:=h2.1 t hta
  simp only
  rw[Bool.eq_false_iff]
  intro h
  simp only[Bool.and_eq_true,decide_eq_true_eq]at h
  exact this h
end Go.Proofs.YtcdhlofhhcgohaaGreat
namespace Go.Proofs.YtcdhlofhhcgohaaGreat
open Go.RowKit Go.Sort Go.Shelf Go.Lib
theorem putCells_at (F arr:Array Value) (t:Nat) (h:t<F.size) (ha:F.size≤arr.size):(putCells id 0 F arr)[t]? = some F[t]! := by
 unfold putCells
 rw[Array.getElem?_mapIdx,Array.getElem?_eq_getElem (by omega)]
 simp[h]
theorem putCells_size (F arr:Array Value):(putCells id 0 F arr).size=arr.size:=by simp[putCells]
theorem sortK_step {α β:Type} [Inhabited β] {f:α→List V} {g:β→α} {C:Cf} {m:Mem} {k b ver sz n:Nat} {nw:Bool} {us:List α} {d':Array β} [hf:CellsI f sz] (hm:HoldsM C m) (hg:m.at k = .row ver false nw sz (us.map f)) (hi:C.ι k=some b) (hl:d'.size=us.length)
  (hint:∀ a,∀ d∈f a,∃ k x,d = .int k x) (enc:β→List Value) (he:∀ x,enc x=(f (g x)).map V.val) (os:Array Obj) :
  ∃ C',C'.w=sortWorldK enc sz C.w b 0 n d' os∧Step C m C' ((k,.row ver false nw sz ((d'.toList.map g).map f))::m):=by
 have hs:=step_map (n:=n) (us':=d'.toList.map g) hm hg hi (by simp[hl]) hint (putCells id 0 (flatK enc sz d')) (fun arr=>putCells_size _ _) (fun arr i j a d h1 h2 h3=>by
  rw[List.getElem?_map,Option.map_eq_some_iff]at h2
  obtain⟨x,hx,rfl⟩:=h2
  rw[Array.getElem?_toList]at hx
  have hid:i<d'.size:=(Array.getElem?_eq_some_iff.1 hx).1
  have hj:j<sz:=by
   have:=(List.getElem?_eq_some_iff.1 h3).1
   rwa[hf.len]at this
  have hb:i*sz+j<d'.size*sz:=by
   have:=Nat.mul_le_mul_right sz (show i+1≤d'.size from hid)
   rw[Nat.add_mul,Nat.one_mul]at this;omega
  have e1:(i*sz+j) / sz=i:=(blk_iff sz i _ (by omega)).1 ⟨by omega,by omega⟩
  have e2:(i*sz+j) % sz=j:=by rw[Nat.mod_eq_sub_div_mul,e1];omega
  rw[putCells_at _ _ _ (by rw[size_flatK];exact hb) (by rw[size_flatK,hl];exact h1),get_flatK _ _ _ _ hb,e1,e2]
  have hx':d'[i]! = x:=by rw[getElem!_pos d' i hid];exact(Array.getElem?_eq_some_iff.1 hx).2
  rw[hx',he,List.getElem!_eq_getElem?_getD,List.getElem?_map,h3];rfl)
 obtain⟨C',e,hs'⟩:=step_grow (m:=(k,.row ver false nw sz ((d'.toList.map g).map f))::m) os hs.holds
 exact⟨C',e,hs.trans hs'⟩
theorem row_holdsK {α β:Type} [Inhabited β] {f:α→List V} {g:β→α} {C:Cf} {b sz:Nat} {nw:Bool} {us:List α} {d:Array β} (hr:RowAt C b false nw sz (us.map f)) (hsz:0<sz) [hf:CellsI f sz] (hint:∀ a,∀ d∈f a,∃ k x,d = .int k x) (hd:d.toList.map g=us)
  (enc:β→List Value) (he:∀ x,enc x=(f (g x)).map V.val):HoldsK enc sz C.w b 0 d:=by
 have hl:d.size=us.length:=by rw[←hd];simp
 intro t ht
 rw[size_flatK]at ht
 obtain⟨a,x,h1,h2,h3,h4⟩:=row_holds hr hsz hint (t:=t) (by rw[←hl];exact ht)
 refine⟨?_,by rw[Nat.zero_add];exact h4⟩
 rw[Nat.zero_add,h3]
 show _=some ((flatK enc sz d)[t]!)
 rw[get_flatK _ _ _ _ ht,he]
 have hi:t / sz<d.size:=Nat.div_lt_of_lt_mul (by rw[Nat.mul_comm];exact ht)
 have:g d[t / sz]! = a:=by
  rw[←hd,List.getElem?_map,Array.getElem?_toList,Array.getElem?_eq_getElem hi]at h1
  rw[getElem!_pos d _ hi];simpa using h1
 rw[this,List.getElem!_eq_getElem?_getD,List.getElem?_map,h2];rfl
def encE (e:End):List Value := [.int .i64 e.port,.int .i64 e.cost,.int .i64 e.other,.int .i64 e.oport]
theorem endV_int (a:End):∀ d∈endV a,∃ k x,d = .int k x:=fun d h=>by
 simp only[endV,List.mem_cons,List.mem_nil_iff,or_false]at h
 rcases h with rfl|rfl|rfl|rfl<;>exact⟨_,_,rfl⟩
theorem intV1_int (a:Int):∀ d∈intV1 a,∃ k x,d = .int k x:=fun d h=>by
 simp only[intV1,List.mem_cons,List.mem_nil_iff,or_false]at h
 subst h;exact⟨_,_,rfl⟩
abbrev EndIn (r:List End) := { e:End // (1≤e.port∧e.port≤30)∧e∈r }
set_option maxHeartbeats 1000000 in
theorem ends_cmp (x y:End) (hx:1≤x.port∧x.port≤30) (hy:1≤y.port∧y.port≤30) (W:World):Calls Tryz.prog 102 #[.agg (encE x).toArray,.agg (encE y).toArray] W fun e w'=>e = .returned (.int .i64 (x.port-y.port))∧∃ q os',w'=grow (W.drewN q) os':=by
 have hw:IntKind.i64.wrap (x.port-y.port)=x.port-y.port:=wrap_in (by simp only[InK];omega)
 unfold encE
 go_enter Tryz.func102,Tryz.ntmps102
 go_wp2
 go_ret
 exact⟨rfl,0,_,by rw[alloc_eq_grow,alloc_eq_grow,grow_grow];rfl⟩
theorem ends_swo (r:List End):SWO (ltOf fun x y:EndIn r=>x.1.port-y.1.port) where
 irrefl x:=by simp[ltOf]
 trans x y z h1 h2:=by simp[ltOf]at *;omega
 ntrans x y z h1 h2:=by simp[ltOf]at *;omega
theorem ends_eg : ∀ args w,(callFunc 102 args).run Tryz.prog w = .ok (.enter 102 args) w:=enters_of Tryz.func102 (by kernel_rfl) rfl
theorem ends_SortFunc (r:List End) (hp:∀ e∈r,1≤e.port∧e.port≤30) (hn:r.length≤1000) (hd:∀ x∈r,∀ y∈r,x.port=y.port→x=y) :
  FnI Tryz.prog 101 [.own 1000 0 0 r.length,.dat false (.fn 102 [])] [(1000,.row 0 false true 4 (r.map endV))] [(1000,.row 0 false true 4 ((sortE r).map endV))]:=by
 refine⟨⟨_,Tryz.func101,rfl,rfl⟩,?_⟩
 intro C vs hm hvl hv
 match vs,hvl with
 | ⟨[v0,v1]⟩,_ =>
 have h0:=hv 0 _ v0 rfl rfl
 have h1:=hv 1 _ v1 rfl rfl
 have e1:v1 = .func (.func 102) #[] #[]:=by
  generalize he:v1=u at h1
  cases h1 with
  | fn f cap vs hl hr => 
   have:vs = #[]:=Array.eq_empty_of_size_eq_zero (by simpa using hl)
   subst this;rfl
 subst e1
 have hg:Mem.at [(1000,Box.row 0 false true 4 (r.map endV))] 1000 = .row 0 false true 4 (r.map endV):=rfl
 obtain⟨ver,frz,nw,sz,xs,e1,e2,⟨a,l,c,e3⟩,e4⟩:=h0
 rw[hg]at e1
 injection e1 with z1 z2 z3 z4 z5
 subst z1 z2 z3 z4 z5
 obtain⟨e5,e6⟩:=e4 rfl
 have hbx:=hm.box 1000
 rw[hg]at hbx
 unfold OwnV at e6
 by_cases hr0:r=[]
 ·subst hr0
  have hv0:∃ p cp,v0 = .slice p 0 cp:=by
   cases hi:C.ι 1000 with
   | none=>rw[hi]at e6;exact⟨_,_,e6.1⟩
   | some b=>rw[hi]at e6;obtain⟨cp,_,_,_,e7,_⟩:=e6;exact⟨_,_,e7⟩
  obtain⟨p,cp,rfl⟩:=hv0
  refine(AnyF.slices_SortFunc_none sortEnds p cp _ C.w).mono ?_
  rintro e w' ⟨rfl,rfl⟩
  exact⟨_,C,rfl,rfl,by
   have:sortE []=[]:=by simp[sortE]
   rw[this];exact Step.refl hm⟩
 ·cases hi:C.ι 1000 with
  | none=>rw[hi]at e6;exact absurd (List.length_eq_zero_iff.1 e6.2.2) hr0
  | some b =>
   rw[hi]at e6
   have hbx':RowAt C b false true 4 (r.map endV):=by rw[hi]at hbx;exact hbx
   obtain⟨cp,arr,T,fz,e7,e8,e9,e10⟩:=e6
   have hv0:v0 = .slice (some ⟨b,0,none⟩) r.length cp:=by rw[e7,Nat.zero_mul]
   subst hv0
   obtain⟨e0,he0⟩:=List.exists_mem_of_ne_nil r hr0
   letI:Inhabited (EndIn r):=⟨⟨e0,hp e0 he0,he0⟩⟩
   let d:Array (EndIn r):=(r.pmap (fun e (h:(1≤e.port∧e.port≤30)∧e∈r)=>⟨e,h⟩) (fun e he=>⟨hp e he,he⟩)).toArray
   have hdl:d.toList.map (fun x=>x.1)=r:=by
    show(List.pmap _ r _).map _=r
    rw[List.map_pmap,List.pmap_eq_map,List.map_id']
   have hds:d.size=r.length:=by simp[d]
   have hbs:b<C.w.heap.size:=(Array.getElem?_eq_some_iff.1 e8).1
   have hcon:=AnyQ.slices_SortFunc_total sortEnds 4 Tryz.isAgg180 Tryz.sizeOf180 (fun x:EndIn r=>encE x.1) (fun _=>rfl) (fun x v hv=>by simp[encE]at hv;rcases hv with rfl|rfl|rfl|rfl<;>rfl) (fun x y=>x.1.port-y.1.port) (ends_swo r)
    102 #[] b 0 cp d C.w ends_eg (fun _ _ _ _ x y=>ends_cmp x.1 y.1 x.2.1 y.2.1 _) (row_holdsK (g:=fun x:EndIn r=>x.1) hbx' (by decide) endV_int hdl _ (fun _=>rfl)) hbs (by omega) (fun x y h1 h2=>Subtype.ext (hd x.1 x.2.2 y.1 y.2.2 (by simp[ltOf]at h1 h2;omega)))
   rw[hds]at hcon
   refine hcon.mono ?_
   rintro e w' ⟨rfl,n,os,rfl⟩
   obtain⟨C',hC,hs⟩:=sortK_step (g:=fun x:EndIn r=>x.1) (n:=n) (d':=(d.toList.mergeSort fun x y => !(ltOf fun x y:EndIn r=>x.1.port-y.1.port) y x).toArray) hm hg hi (by simp[hds]) endV_int (fun x=>encE x.1) (fun _=>rfl) os
   refine⟨_,C',rfl,hC,?_⟩
   have hsort:((d.toList.mergeSort fun x y => !(ltOf fun x y:EndIn r=>x.1.port-y.1.port) y x).toArray.toList.map fun x=>x.1)=sortE r:=by
    rw[List.toList_toArray,List.map_mergeSort (s:=fun x y:End=>decide (x.port≤y.port)) (fun x _ y _=>by simp[ltOf];by_cases h:x.1.port≤y.1.port<;>simp[h]<;>omega),hdl]
    rfl
   rw[hsort]at hs
   exact⟨Ext_congr (fun _=>rfl) (fun g=>by show Mem.at _ g=Mem.at _ g;by_cases h:1000=g<;>simp[Mem.at,look_cons,h]) hs.ext,HoldsM_congr (fun g=>by by_cases h:1000=g<;>simp[Mem.at,look_cons,h]) hs.holds,fun d v h=>RdD_congr (fun g=>by by_cases h:1000=g<;>simp[Mem.at,look_cons,h]) d v (hs.slot d v h)⟩
theorem putCells_atI (F:Array Int) (arr:Array Value) (t:Nat) (h:t<F.size) (ha:F.size≤arr.size):(putCells (Value.int .i64) 0 F arr)[t]? = some (.int .i64 F[t]!):=by
 unfold putCells
 rw[Array.getElem?_mapIdx,Array.getElem?_eq_getElem (by omega)]
 simp[h]
theorem ints_Sort (r:List Int) (hn:r.length≤1000) :
  FnI Tryz.prog 89 [.own 1000 0 0 r.length] [(1000,.row 0 false true 1 (r.map intV1))] [(1000,.row 0 false true 1 ((sortI r).map intV1))]:=by
 refine⟨⟨_,Tryz.func89,rfl,rfl⟩,?_⟩
 intro C vs hm hvl hv
 match vs,hvl with
 | ⟨[v0]⟩,_ =>
 have h0:=hv 0 _ v0 rfl rfl
 have hg:Mem.at [(1000,Box.row 0 false true 1 (r.map intV1))] 1000 = .row 0 false true 1 (r.map intV1):=rfl
 obtain⟨ver,frz,nw,sz,xs,e1,e2,⟨a,l,c,e3⟩,e4⟩:=h0
 rw[hg]at e1
 injection e1 with z1 z2 z3 z4 z5
 subst z1 z2 z3 z4 z5
 obtain⟨e5,e6⟩:=e4 rfl
 have hbx:=hm.box 1000
 rw[hg]at hbx
 unfold OwnV at e6
 by_cases hr0:r=[]
 ·subst hr0
  have hv0:∃ p cp,v0 = .slice p 0 cp:=by
   cases hi:C.ι 1000 with
   | none=>rw[hi]at e6;exact⟨_,_,e6.1⟩
   | some b=>rw[hi]at e6;obtain⟨cp,_,_,_,e7,_⟩:=e6;exact⟨_,_,e7⟩
  obtain⟨p,cp,rfl⟩:=hv0
  refine(AnyG.slices_Sort_int_none sortInts p cp C.w).mono ?_
  rintro e w' ⟨rfl,rfl⟩
  exact⟨_,C,rfl,rfl,by
   have:sortI []=[]:=by simp[sortI]
   rw[this];exact Step.refl hm⟩
 ·cases hi:C.ι 1000 with
  | none=>rw[hi]at e6;exact absurd (List.length_eq_zero_iff.1 e6.2.2) hr0
  | some b =>
   rw[hi]at e6
   have hbx':RowAt C b false true 1 (r.map intV1):=by rw[hi]at hbx;exact hbx
   obtain⟨cp,arr,T,fz,e7,e8,e9,e10⟩:=e6
   have hv0:v0 = .slice (some ⟨b,0,none⟩) r.length cp:=by rw[e7,Nat.zero_mul]
   subst hv0
   have hbs:b<C.w.heap.size:=(Array.getElem?_eq_some_iff.1 e8).1
   have hH:Go.Sort.Holds (Value.int .i64) C.w b 0 r.toArray:=fun t ht=>by
    obtain⟨a,x,h1,h2,h3,h4⟩:=row_holds hbx' (by decide) intV1_int (t:=t) (by simpa using ht)
    refine⟨?_,by rw[Nat.zero_add];exact h4⟩
    rw[Nat.zero_add,h3]
    rw[Nat.div_one]at h1
    rw[Nat.mod_one]at h2
    simp only[intV1,List.getElem?_cons_zero,Option.some.injEq]at h2
    subst h2
    have:r.toArray[t]! = a:=by
     rw[getElem!_pos r.toArray t ht]
     rw[List.getElem?_eq_getElem (by simpa using ht)]at h1
     simpa using h1
    rw[this];rfl
   refine(AnyG.slices_Sort_int sortInts b 0 cp r C.w hH hbs (by omega)).mono ?_
   rintro e w' ⟨rfl,n,os,rfl⟩
   have hlen:(sortI r).length=r.length:=List.length_mergeSort r
   have hs:=step_map (n:=n) (us':=sortI r) hm hg hi hlen intV1_int (putCells (Value.int .i64) 0 (sortI r).toArray) (fun arr=>by simp[putCells]) (fun arr i j a d h1 h2 h3=>by
    have hj:j=0:=by
     have:=(List.getElem?_eq_some_iff.1 h3).1
     simp[intV1]at this;exact this
    subst hj
    simp only[intV1,List.getElem?_cons_zero,Option.some.injEq]at h3
    subst h3
    have hi':i<(sortI r).length:=(List.getElem?_eq_some_iff.1 h2).1
    rw[Nat.mul_one,Nat.add_zero,putCells_atI _ _ _ (by simpa using hi') (by simp[hlen];omega)]
    have:(sortI r).toArray[i]! = a:=by
     rw[getElem!_pos _ i (by simpa using hi')]
     rw[List.getElem?_eq_getElem hi']at h2
     simpa using h2
    rw[this];rfl)
   obtain⟨C',e,hs'⟩:=step_grow (m:=(1000,.row 0 false true 1 ((sortI r).map intV1))::[(1000,.row 0 false true 1 (r.map intV1))]) os hs.holds
   have hs2:=hs.trans hs'
   refine⟨_,C',rfl,e,?_⟩
   exact⟨Ext_congr (fun _=>rfl) (fun g=>by by_cases h:1000=g<;>simp[Mem.at,look_cons,h]) hs2.ext,HoldsM_congr (fun g=>by by_cases h:1000=g<;>simp[Mem.at,look_cons,h]) hs2.holds,fun d v h=>RdD_congr (fun g=>by by_cases h:1000=g<;>simp[Mem.at,look_cons,h]) d v (hs2.slot d v h)⟩
end Go.Proofs.YtcdhlofhhcgohaaGreat
