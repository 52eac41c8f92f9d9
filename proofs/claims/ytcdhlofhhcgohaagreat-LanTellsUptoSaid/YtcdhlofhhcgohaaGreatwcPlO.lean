/- The document's way to a plan: the root port, the roles: mathematics. -/
import Derived.Test.YtcdhlofhhcgohaaGreatwbFam
import Derived.Test.YtcdhlofhhcgohaaGreatwbNst
import Derived.Test.YtcdhlofhhcgohaaGreatwdPlI
import Derived.Test.YtcdhlofhhcgohaaGreatwbMap
namespace Go.Proofs.YtcdhlofhhcgohaaGreat
open Go.RowKit
def zdQ (bs:List Bridge) (l:Link):Bool:=l.up && decide ((idsR bs)[l.a.toNat]? = (idsR bs)[l.b.toNat]?)
def za3 (n:Net):List Link:=n.links.filter (zdQ n.bridges)
def rawE (ls:List Link) (i:Nat):List End:=ls.flatMap (zfz i)
def famX (nb:Nat) (ls:List Link):List (List End):=(List.range nb).map (rawE ls)
def zdR (r:List End):List End:=r.mergeSort fun x y=>decide (x.port≤y.port)
def zaL (n:Net) (i:Nat):List End:=zdR (rawE (za3 n) i)
structure Link.ok (nb:Nat) (l:Link):Prop where
 a0:0≤l.a
 a1:l.a<nb
 b0:0≤l.b
 b1:l.b<nb
 ne:l.a≠l.b
 pa:1≤l.pa∧l.pa≤30
 pb:1≤l.pb∧l.pb≤30
 c:1≤l.cost∧l.cost≤200000
theorem zdJ (nb:Nat) (ls:List Link):(famX nb ls).length=nb:=by simp[famX]
theorem zej {nb:Nat} {ls:List Link} {i:Nat} (h:i<nb):(famX nb ls)[i]? = some (rawE ls i):=by simp[famX,h]
theorem zq4 (nb:Nat):famX nb []=List.replicate nb []:=by
 apply List.ext_getElem?
 intro i
 by_cases h:i<nb
 ·rw[zej h,List.getElem?_replicate,if_pos h];rfl
 ·rw[List.getElem?_eq_none (by rw[zdJ];omega),List.getElem?_eq_none (by rw[List.length_replicate];omega)]
theorem zq5 (ls:List Link) (l:Link) (i:Nat):rawE (ls++[l]) i=rawE ls i++zfz i l:=by
 unfold rawE;rw[List.flatMap_append];simp
theorem zo6 {nb:Nat} {ls:List Link} {l:Link} (h:l.ok nb) :
  ((famX nb ls).set l.a.toNat (rawE ls l.a.toNat++[⟨l.pa,l.cost,l.b,l.pb⟩])).set l.b.toNat (rawE ls l.b.toNat++[⟨l.pb,l.cost,l.a,l.pa⟩])=famX nb (ls++[l]):=by
 obtain⟨a0,a1,b0,b1,ne,_,_,_⟩:=h
 apply List.ext_getElem?
 intro i
 by_cases hi:i<nb
 ·rw [zej hi,zq5]
  by_cases hb:i=l.b.toNat
  ·subst hb
   rw[List.getElem?_set_self (by rw[List.length_set,zdJ];exact hi)]
   unfold zfz
   rw[if_neg (by omega),if_pos (by omega)];rfl
  ·rw[List.getElem?_set_ne (Ne.symm hb)]
   by_cases ha:i=l.a.toNat
   ·subst ha
    rw[List.getElem?_set_self (by rw[zdJ];exact hi)]
    unfold zfz
    rw[if_pos (by omega),if_neg (by omega)];rfl
   ·rw[List.getElem?_set_ne (Ne.symm ha),zej hi]
    unfold zfz
    rw[if_neg (by omega),if_neg (by omega)];simp
 ·rw[List.getElem?_eq_none (by rw[List.length_set,List.length_set,zdJ];omega),List.getElem?_eq_none (by rw[zdJ];omega)]
theorem zks {bs:List Bridge} {ls:List Link} {k:Nat} {l:Link} (h:ls[k]? = some l):(ls.take (k+1)).filter (zdQ bs)=(ls.take k).filter (zdQ bs)++if zdQ bs l then [l]else []:=by
 rw[List.take_add_one,h,List.filter_append]
 congr 1
 by_cases hl:zdQ bs l=true
 ·rw[if_pos hl];simp[hl]
 ·rw[if_neg hl];simp[hl]
def srtX (xs:List (List End)) (j:Nat):List (List End):=(xs.take j).map zdR++xs.drop j
theorem zo7 (xs:List (List End)):srtX xs 0=xs:=by simp[srtX]
theorem zq6 (xs:List (List End)) (j:Nat):(srtX xs j).length=xs.length:=by simp[srtX];omega
theorem zsT {xs:List (List End)} {j:Nat} {r:List End} (h:xs[j]? = some r):(srtX xs j)[j]? = some r:=by
 have hj:=(List.getElem?_eq_some_iff.1 h).1
 unfold srtX
 rw[List.getElem?_append_right (by simp;omega)]
 simp only[List.length_map,List.length_take,Nat.min_eq_left (Nat.le_of_lt hj),Nat.sub_self,List.getElem?_drop,Nat.add_zero]
 exact h
theorem zq7 {xs:List (List End)} {j:Nat} {r:List End} (h:xs[j]? = some r):(srtX xs j).set j (zdR r)=srtX xs (j+1):=by
 have hj:=(List.getElem?_eq_some_iff.1 h).1
 have hl:((xs.take j).map zdR).length=j:=by simp;omega
 unfold srtX
 rw[List.set_append_right _ _ (by omega),hl,Nat.sub_self,List.drop_eq_getElem_cons hj,List.set_cons_zero,List.take_add_one,h,List.map_append,List.append_assoc]
 rfl
theorem zq8 (xs:List (List End)):srtX xs xs.length=xs.map zdR:=by simp[srtX]
theorem zkt (r:List End):(zdR r).length=r.length:=List.length_mergeSort r
theorem zq9 (n:Net):(famX n.bridges.length (za3 n)).map zdR=(List.range n.bridges.length).map (zaL n):=by
 unfold famX;rw[List.map_map];rfl
theorem zjb (ls:List Link) (i:Nat):(rawE ls i).length≤2*ls.length:=by
 unfold rawE
 induction ls with
 | nil=>simp
 | cons l r ih =>
  rw[List.flatMap_cons,List.length_append,List.length_cons]
  have:(zfz (i:Int) l).length≤2:=by
   unfold zfz
   split<;>split<;>simp
  omega
theorem zo8 (n:Net) (k:Nat):((n.links.take k).filter (zdQ n.bridges)).length≤n.links.length :=
 Nat.le_trans (List.length_filter_le _ _) (by simp;omega)
def zdK (r:List End):List V := [.slice (r.map endV)]
instance : CellsI zdK 1:=⟨fun _=>rfl,fun t d h=>by
 simp only[zdK,List.mem_cons,List.mem_nil_iff,or_false]at h
 subst h;rfl⟩
end Go.Proofs.YtcdhlofhhcgohaaGreat
namespace Go.Proofs.YtcdhlofhhcgohaaGreat
open Go.RowKit
def zcj (r:List Int):List Int:=r.mergeSort fun x y=>decide (x≤y)
def rawP (ls:List Link) (i:Int):List Int:=ls.flatMap (zd1 i)
theorem zaW (ls:List Link) (i:Int):zah ls i=zcj (rawP ls i):=rfl
theorem zbz (ls:List Link) (i:Int):(rawP ls i).length≤2*ls.length:=by
 unfold rawP
 induction ls with
 | nil=>simp
 | cons l r ih =>
  rw[List.flatMap_cons,List.length_append,List.length_cons]
  have:(zd1 i l).length≤2:=by
   unfold zd1
   split<;>split<;>simp
  omega
theorem zo9 {ls:List Link} {i:Int} {k:Nat} {l:Link} (h:ls[k]? = some l):rawP (ls.take (k+1)) i=rawP (ls.take k) i++zd1 i l:=by
 unfold rawP
 rw[List.take_add_one,h,List.flatMap_append];simp
theorem zra (ls:List Link) (i:Int):rawP (ls.take 0) i=[]:=rfl
def zde (ends:List End) (says:Vec) (root:Int) (l:List Offer) (ps:List Int):List Int:=ps.map fun p=>if ends.any (fun e=>decide (e.port=p))then zb9 says root p l else 0
theorem zek (ends:List End) (says:Vec) (root:Int) (l:List Offer) (ps:List Int):(zde ends says root l ps).length=ps.length:=by simp[zde]
end Go.Proofs.YtcdhlofhhcgohaaGreat
namespace Go.Proofs.YtcdhlofhhcgohaaGreat
open Go.RowKit
structure Net.typed (n:Net):Prop where
 ad:∀ b∈n.bridges,0≤b.addr
 wy:∀ b∈n.bridges,b.region.ways.length≤9223372036854775807
def zbI (ls:List Link):List (Int×Int):=ls.flatMap fun l=>[(l.a,l.pa),(l.b,l.pb)]
structure Net.good (n:Net):Prop where
 nb:n.bridges.length≤12
 nl:n.links.length≤40
 br:∀ b∈n.bridges,b.ok
 ad:n.bridges.Pairwise fun a b=>a.addr≠b.addr
 lk:∀ l∈n.links,l.ok n.bridges.length
 po:(zbI n.links).Nodup
theorem Bridge.wrong_ok {b:Bridge} (h0:0≤b.addr):b.wrong=0↔b.ok∧b.region.wrong=0:=by
 unfold Bridge.wrong
 constructor
 ·intro h
  split at h
  ·omega
  split at h
  ·omega
  split at h
  ·omega
  rename_i h1 h2 h3
  refine⟨⟨h0,by omega,by omega,fun p hp hb=>h3 (List.any_eq_true.2 ⟨p,hp,decide_eq_true hb⟩),Region.right_of h⟩,h⟩
 ·rintro⟨h,hr⟩
  rw[if_neg (by have:=h.a1;omega),if_neg (by have:=h.n;omega),if_neg,hr]
  intro h3
  obtain⟨p,hp,hb⟩:=List.any_eq_true.1 h3
  exact h.p p hp (of_decide_eq_true hb)
theorem Link.wrong_ok {k:Nat} {l:Link}:l.wrong k=0↔l.ok k:=by
 unfold Link.wrong
 constructor
 ·intro h
  split at h
  ·omega
  split at h
  ·omega
  split at h
  ·omega
  exact⟨by omega,by omega,by omega,by omega,by omega,by omega,by omega,by omega⟩
 ·rintro⟨h1,h2,h3,h4,h5,h6,h7,h8⟩
  rw[if_neg (by omega),if_neg (by omega),if_neg (by omega)]
theorem zd4 : ∀ (l seen:List Bridge) (i:Nat),zbk seen i l=none↔(∀ b∈l,b.wrong=0)∧l.Pairwise (fun a b=>a.addr≠b.addr)∧∀ a∈seen,∀ b∈l,a.addr≠b.addr
 | [],seen,i=>by simp[zbk]
 | b :: r,seen,i=>by
  rw[zbk]
  by_cases h1:b.wrong=0
  ·rw [if_neg (by simpa using h1)]
   by_cases h2:seen.any (fun o=>decide (o.addr=b.addr))=true
   ·rw[if_pos h2]
    obtain⟨a,ha,e⟩:=List.any_eq_true.1 h2
    constructor
    ·intro h;cases h
    ·rintro⟨_,_,h⟩
     exact absurd (of_decide_eq_true e) (h a ha b (List.mem_cons_self ..))
   ·rw[if_neg h2,zd4 r _ _]
    have h2':∀ a∈seen,a.addr≠b.addr:=fun a ha e=>h2 (List.any_eq_true.2 ⟨a,ha,decide_eq_true e⟩)
    simp only[List.mem_cons,List.pairwise_cons,List.mem_append,forall_eq_or_imp]
    constructor
    ·rintro⟨g1,g2,g3⟩
     exact⟨⟨h1,g1⟩,⟨fun a ha=>g3 b (by simp) a ha,g2⟩,fun a ha=>⟨h2' a ha,fun c hc=>g3 a (.inl ha) c hc⟩⟩
    ·rintro⟨⟨_,g1⟩,⟨g2,g3⟩,g4⟩
     refine⟨g1,g3,fun a ha c hc=>?_⟩
     rcases ha with ha|ha
     ·exact(g4 a ha).2 c hc
     ·simp at ha;subst ha;exact g2 c hc
  ·rw[if_pos h1]
   constructor
   ·intro h;cases h
   ·rintro⟨h,_⟩
    exact absurd (h b (List.mem_cons_self ..)) h1
theorem zd5 : ∀ (l seen:List Bridge) (i:Nat) (f:Int×Nat),zbk seen i l=some f→f.1≠0
 | [],seen,i,f=>by simp[zbk]
 | b::r,seen,i,f=>by
  rw[zbk]
  split
  ·rename_i h;rintro⟨rfl⟩;exact h
  split
  ·rintro⟨rfl⟩;simp
  ·exact zd5 r _ _ f
theorem zd6 (k:Nat):∀ (l:List Link) (had:List (Int×Int)) (i:Nat),za0 k had i l=none↔(∀ x∈l,x.wrong k=0)∧(zbI l).Nodup∧∀ a∈had,a∉zbI l
 | [],had,i=>by simp[za0,zbI]
 | x :: r,had,i=>by
  have hs:zbI (x::r)=(x.a,x.pa)::(x.b,x.pb)::zbI r:=rfl
  rw[za0,hs]
  by_cases h1:x.wrong k=0
  ·rw [if_neg (by simpa using h1)]
   by_cases h2:(x.a,x.pa)∈had
   ·rw[if_pos h2]
    exact⟨fun h=>(by cases h),fun⟨_,_,h⟩=>absurd (List.mem_cons_self ..) (h _ h2)⟩
   rw[if_neg h2]
   by_cases h3:(x.b,x.pb)∈had++[(x.a,x.pa)]
   ·rw[if_pos h3]
    refine⟨fun h=>(by cases h),fun⟨_,h4,h⟩=>?_⟩
    rcases List.mem_append.1 h3 with h3|h3
    ·exact absurd (List.mem_cons_of_mem _ (List.mem_cons_self ..)) (h _ h3)
    ·simp only[List.mem_singleton]at h3
     rw[h3]at h4
     simp at h4
   rw[if_neg h3,zd6 k r _ _]
   simp only[List.mem_append,List.mem_singleton,not_or]at h3
   simp only[List.mem_cons,List.nodup_cons,not_or,List.mem_append,List.not_mem_nil,or_false,forall_eq_or_imp]
   constructor
   ·rintro⟨g1,g2,g3⟩
    refine⟨⟨h1,g1⟩,⟨⟨fun e=>h3.2 e.symm,g3 _ (.inl (.inr rfl))⟩,g3 _ (.inr rfl),g2⟩,fun a ha=>⟨fun e=>h2 (e▸ha),fun e=>h3.1 (e▸ha),g3 a (.inl (.inl ha))⟩⟩
   ·rintro⟨⟨_,g1⟩,⟨⟨_,g2⟩,g3,g4⟩,g5⟩
    refine⟨g1,g4,fun a ha=>?_⟩
    rcases ha with(ha|rfl)|rfl
    ·exact(g5 a ha).2.2
    ·exact g2
    ·exact g3
  ·rw[if_pos h1]
   exact⟨fun h=>(by cases h),fun⟨h,_⟩=>absurd (h x (List.mem_cons_self ..)) h1⟩
theorem zd7 (k:Nat):∀ (l:List Link) (had:List (Int×Int)) (i:Nat) (f:Int×Nat),za0 k had i l=some f→f.1≠0
 | [],had,i,f=>by simp[za0]
 | x::r,had,i,f=>by
  rw[za0]
  split
  ·rename_i h;rintro⟨rfl⟩;exact h
  split
  ·rintro⟨rfl⟩;simp
  split
  ·rintro⟨rfl⟩;simp
  ·exact zd7 k r _ _ f
theorem Net.wrong_iff {n:Net} (ht:n.typed):n.wrong.1=0↔n.good∧∀ b∈n.bridges,b.region.wrong=0:=by
 unfold Net.wrong
 by_cases h0:12<n.bridges.length∨40<n.links.length
 ·rw[if_pos h0]
  exact⟨fun h=>(by simp at h),fun⟨h,_⟩=>(by have:=h.nb;have:=h.nl;omega)⟩
 rw[if_neg h0]
 cases hb:zbk [] 0 n.bridges with
 | some f =>
  have:=zd5 _ _ _ _ hb
  refine⟨fun h=>absurd h this,fun⟨h,hr⟩=>?_⟩
  have hn:zbk [] 0 n.bridges=none:=(zd4 _ _ _).2 ⟨fun b h'=>(Bridge.wrong_ok (ht.ad b h')).2 ⟨h.br b h',hr b h'⟩,h.ad,by simp⟩
  rw[hn]at hb;cases hb
 | none =>
  obtain⟨b1,b2,_⟩:=(zd4 _ _ _).1 hb
  cases hl:za0 n.bridges.length [] 0 n.links with
  | some f =>
   have:=zd7 _ _ _ _ _ hl
   refine⟨fun h=>absurd h this,fun⟨h,hr⟩=>?_⟩
   have hn:za0 n.bridges.length [] 0 n.links=none:=(zd6 _ _ _ _).2 ⟨fun l h'=>Link.wrong_ok.2 (h.lk l h'),h.po,by simp⟩
   rw[hn]at hl;cases hl
  | none =>
   obtain⟨l1,l2,_⟩:=(zd6 _ _ _ _).1 hl
   refine⟨fun _=>⟨⟨by omega,by omega,fun b h'=>((Bridge.wrong_ok (ht.ad b h')).1 (b1 b h')).1,b2,fun l h'=>Link.wrong_ok.1 (l1 l h'),l2⟩,fun b h'=>((Bridge.wrong_ok (ht.ad b h')).1 (b1 b h')).2⟩,fun _=>rfl⟩
theorem Net.wrong_zero {n:Net} (h:n.wrong.1=0):n.wrong=(0,0):=by
 unfold Net.wrong at *
 split at h
 ·simp at h
 rename_i h0
 rw[if_neg h0]
 cases hb:zbk [] 0 n.bridges with
 | some f=>rw[hb]at h;exact absurd h (zd5 _ _ _ _ hb)
 | none =>
  rw[hb]at h
  cases hl:za0 n.bridges.length [] 0 n.links with
  | some f=>rw[hl]at h;exact absurd h (zd7 _ _ _ _ _ hl)
  | none=>rfl
def sides (ls:List Link):List ((Int×Int)×End):=ls.flatMap fun l=>[((l.a,l.pa),⟨l.pa,l.cost,l.b,l.pb⟩),((l.b,l.pb),⟨l.pb,l.cost,l.a,l.pa⟩)]
theorem zpa (ls:List Link):(sides ls).map (·.1)=zbI ls:=by
 unfold sides zbI
 induction ls with
 | nil=>rfl
 | cons l r ih=>simp only[List.flatMap_cons,List.map_append,ih];rfl
theorem zku {α β:Type}:∀ {l:List (α×β)} {k:α} {x y:β},(l.map (·.1)).Nodup→(k,x)∈l→(k,y)∈l→x=y
 | [],_,_,_,_,h,_=>by cases h
 | (k',z)::r,k,x,y,hn,h1,h2=>by
  simp only[List.map_cons,List.nodup_cons]at hn
  have key:∀ {w:β},(k',w)∈r→False:=fun {w} hw=>hn.1 (List.mem_map.2 ⟨(k',w),hw,rfl⟩)
  rcases List.mem_cons.1 h1 with e1|j1<;>rcases List.mem_cons.1 h2 with e2|j2
  ·injection e1 with _ e1;injection e2 with _ e2;rw[e1,e2]
  ·injection e1 with e1 _;subst e1;exact(key j2).elim
  ·injection e2 with e2 _;subst e2;exact(key j1).elim
  ·exact zku hn.2 j1 j2
theorem zkv {ls:List Link} {i:Nat} {e:End} (h:e∈rawE ls i):(((i:Int),e.port),e)∈sides ls:=by
 unfold rawE at h
 obtain⟨l,hl,he⟩:=List.mem_flatMap.1 h
 refine List.mem_flatMap.2 ⟨l,hl,?_⟩
 unfold zfz at he
 rcases List.mem_append.1 he with he|he
 ·split at he
  ·rename_i ha;simp only[List.mem_singleton]at he;subst he;rw[←ha];exact List.mem_cons_self ..
  ·cases he
 ·split at he
  ·rename_i ha;simp only[List.mem_singleton]at he;subst he;rw[←ha];exact List.mem_cons_of_mem _ (List.mem_cons_self ..)
  ·cases he
theorem zid {ls ls':List Link} (h:∀ l∈ls,l∈ls') {x:(Int×Int)×End} (hx:x∈sides ls):x∈sides ls':=by
 obtain⟨l,hl,he⟩:=List.mem_flatMap.1 hx
 exact List.mem_flatMap.2 ⟨l,h l hl,he⟩
theorem zel {n:Net} {l:Link} (h:l∈za3 n):l∈n.links:=(List.mem_filter.1 h).1
theorem Net.good.end_one {n:Net} (h:n.good) {i:Nat} {x y:End} (hx:x∈rawE (za3 n) i) (hy:y∈rawE (za3 n) i) (hp:x.port=y.port):x=y:=by
 have hn:((sides n.links).map (·.1)).Nodup:=by rw[zpa];exact h.po
 have h1:=zid (fun l=>zel (n:=n)) (zkv hx)
 have h2:=zid (fun l=>zel (n:=n)) (zkv hy)
 rw[←hp]at h2
 exact zku hn h1 h2
theorem zjc {n:Net} (h:n.good) {i:Nat} {e:End} (he:e∈rawE (za3 n) i):(1≤e.port∧e.port≤30)∧(1≤e.cost∧e.cost≤200000)∧(0≤e.other∧e.other<n.bridges.length)∧(1≤e.oport∧e.oport≤30)∧e.other≠i:=by
 unfold rawE at he
 obtain⟨l,hl,he⟩:=List.mem_flatMap.1 he
 have hk:=h.lk l (zel hl)
 unfold zfz at he
 rcases List.mem_append.1 he with he|he
 ·split at he
  ·rename_i ha;simp only[List.mem_singleton]at he;subst he;exact⟨hk.pa,hk.c,⟨hk.b0,hk.b1⟩,hk.pb,by have:=hk.ne;simp only;omega⟩
  ·cases he
 ·split at he
  ·rename_i ha;simp only[List.mem_singleton]at he;subst he;exact⟨hk.pb,hk.c,⟨hk.a0,hk.a1⟩,hk.pa,by have:=hk.ne;simp only;omega⟩
  ·cases he
theorem zco {n:Net} {i:Nat} {e:End}:e∈zaL n i↔e∈rawE (za3 n) i:=by
 unfold zaL zdR;exact List.mem_mergeSort
theorem znt (n:Net) (i:Nat):(zaL n i).length≤2*n.links.length:=by
 unfold zaL
 rw[zkt]
 have h1:=zjb (za3 n) i
 have h2:(za3 n).length≤n.links.length:=List.length_filter_le _ _
 omega
end Go.Proofs.YtcdhlofhhcgohaaGreat
namespace Go.Proofs.YtcdhlofhhcgohaaGreat
theorem Vec.cmp_lt {a b:Vec}:a.cmp b<0↔a.root<b.root∨(a.root=b.root∧(a.cost<b.cost∨(a.cost=b.cost∧(a.bridge<b.bridge∨(a.bridge=b.bridge∧a.port<b.port))))):=by
 exact Vec.cmp_neg
theorem Vec.cmp_eq {a b:Vec}:a.cmp b=0↔a.root=b.root∧a.cost=b.cost∧a.bridge=b.bridge∧a.port=b.port:=by
 unfold Vec.cmp
 simp only[orI,cmpI]
 repeat' split
 all_goals (first|omega|(constructor<;>intro h<;>omega))
def Offer.elig (id:Int) (o:Offer) (w:Vec):Prop:=o.vec.over o.cost=some w∧0≤o.port∧0≤o.age∧o.age<20∧w.root<id
def Vec.le2 (a:Vec) (p:Int) (b:Vec) (q:Int):Prop:=a.cmp b<0∨(a.cmp b=0∧p≤q)
theorem Vec.le2_trans {a b c:Vec} {p q r:Int} (h:a.le2 p b q) (k:b.le2 q c r):a.le2 p c r:=by
 unfold Vec.le2 at *
 simp only[Vec.cmp_lt,Vec.cmp_eq]at *
 omega
theorem Vec.le2_refl (a:Vec) (p:Int):a.le2 p a p := .inr ⟨Vec.cmp_eq.2 ⟨rfl,rfl,rfl,rfl⟩,Int.le_refl _⟩
theorem Vec.le2_antisymm {a b:Vec} {p q:Int} (h:a.le2 p b q) (k:b.le2 q a p):a.root=b.root∧a.cost=b.cost∧a.bridge=b.bridge∧a.port=b.port∧p=q:=by
 unfold Vec.le2 at *
 simp only[Vec.cmp_lt,Vec.cmp_eq]at *
 omega
theorem Vec.le2_total (a b:Vec) (p q:Int):¬(a.cmp b<0∨(a.cmp b=0∧p<q))→b.le2 q a p:=by
 unfold Vec.le2
 simp only[Vec.cmp_lt,Vec.cmp_eq]
 omega
theorem Vec.le2_of_lt {a b:Vec} {p q:Int} (h:a.cmp b<0∨(a.cmp b=0∧p<q)):a.le2 p b q:=by
 unfold Vec.le2
 rcases h with h|h
 ·exact .inl h
 ·exact .inr ⟨h.1,by omega⟩
structure Ch.Inv (id:Int) (l:List Offer) (c:Ch):Prop where
 neg:c.port<0→c = .start id
 some:0≤c.port→∃ o∈l,o.elig id c.best∧o.port=c.port∧c.age=o.age+1
 min:∀ o∈l,∀ w,o.elig id w→0≤c.port∧c.best.le2 c.port w o.port
theorem Ch.inv_step {id:Int} {l:List Offer} {c:Ch} {o:Offer} (h:Ch.Inv id l c):Ch.Inv id (l++[o]) (c.step id o):=by
 by_cases he:∃ w,o.elig id w
 ·obtain ⟨w,hw⟩:=he
  have hi:=hw.1
  have e:c.step id o=if(c.port<0∨((o.vec.over o.cost).getD .zero).cmp c.best<0∨(((o.vec.over o.cost).getD .zero).cmp c.best=0∧o.port<c.port))then⟨(o.vec.over o.cost).getD .zero,o.age+1,o.port⟩else c :=
   Ch.step_in (by rw[hi];rfl) hw.2.1 hw.2.2.1 hw.2.2.2.1 (by rw[hi];exact hw.2.2.2.2)
  rw[hi]at e
  simp only[Option.getD_some]at e
  have huniq:∀ w',o.elig id w'→w'=w:=fun w' h'=>by
   have:=h'.1.symm.trans hw.1
   injection this
  by_cases hc:c.port<0∨w.cmp c.best<0∨(w.cmp c.best=0∧o.port<c.port)
  ·rw [e,if_pos hc]
   refine⟨fun hn=>?_,fun _=>⟨o,by simp,hw,rfl,rfl⟩,fun o' ho' w' hw'=>⟨hw.2.1,?_⟩⟩
   ·have:=hw.2.1;simp only at hn;omega
   ·rcases List.mem_append.1 ho' with h1|h1
    ·obtain⟨k1,k2⟩:=h.min o' h1 w' hw'
     rcases hc with hc|hc
     ·omega
     ·exact Vec.le2_trans (Vec.le2_of_lt hc) k2
    ·simp at h1;subst h1
     rw[huniq w' hw']
     exact Vec.le2_refl _ _
  ·rw [e,if_neg hc]
   have hp:0≤c.port:=by omega
   refine⟨h.neg,fun hp=>?_,fun o' ho' w' hw'=>⟨hp,?_⟩⟩
   ·obtain⟨o',h1,h2⟩:=h.some hp
    exact⟨o',by simp[h1],h2⟩
   ·rcases List.mem_append.1 ho' with h1|h1
    ·exact(h.min o' h1 w' hw').2
    ·simp at h1;subst h1
     rw[huniq w' hw']
     exact Vec.le2_total _ _ _ _ (fun hh=>hc (.inr hh))
 ·have e:c.step id o=c:=Ch.step_skip (fun h0 h1 h2 h3=>by
   obtain⟨w,hw⟩:=Option.isSome_iff_exists.1 h0
   rw[hw]
   simp only[Option.getD_some]
   by_cases hr:w.root<id
   ·exact absurd ⟨w,hw,h1,h2,h3,hr⟩ he
   ·omega)
  rw[e]
  refine⟨h.neg,fun hp=>?_,fun o' ho' w' hw'=>?_⟩
  ·obtain⟨o',h1,h2⟩:=h.some hp
   exact⟨o',by simp[h1],h2⟩
  ·rcases List.mem_append.1 ho' with h1|h1
   ·exact h.min o' h1 w' hw'
   ·simp at h1;subst h1
    exact absurd ⟨w',hw'⟩ he
theorem Ch.inv_fold {id:Int}:∀ (r l:List Offer) (c:Ch),Ch.Inv id l c→Ch.Inv id (l++r) (r.foldl (Ch.step id) c)
 | [],l,c,h=>by simpa using h
 | o::r,l,c,h=>by
  have:=Ch.inv_fold r (l++[o]) (c.step id o) (Ch.inv_step h)
  simpa using this
theorem zie (id:Int) (l:List Offer):Ch.Inv id l (zaK id l):=by
 have:=Ch.inv_fold (id:=id) l [] (.start id) ⟨fun _=>rfl,fun h=>by simp[Ch.start]at h,fun o h=>by simp at h⟩
 simpa[zaK]using this
end Go.Proofs.YtcdhlofhhcgohaaGreat
namespace Go.Proofs.YtcdhlofhhcgohaaGreat
def idN (n:Net) (tree:Int) (i:Nat):Int:=((n.bridges[i]?).map (·.id tree)).getD 0
theorem zmH {n:Net} {tree:Int} {i:Nat} {b:Bridge} (h:n.bridges[i]? = some b):idN n tree i=b.id tree:=by unfold idN;rw[h];rfl
def adjN (n:Net) (i:Nat) (e:End):Prop:=e∈rawE (za3 n) i
section
variable {n : Net} (h : n.good) (tree : Int) {t i : Nat}
include h
end
end Go.Proofs.YtcdhlofhhcgohaaGreat
namespace Go.Proofs.YtcdhlofhhcgohaaGreat
section
variable {n : Net} (h : n.good) (tree : Int)
include h
end
theorem zlE {n:Net} {l:Link} (h:n.good) (hl:l∈za3 n):adjN n l.a.toNat ⟨l.pa,l.cost,l.b,l.pb⟩∧adjN n l.b.toNat ⟨l.pb,l.cost,l.a,l.pa⟩:=by
 have hk:=h.lk l (zel hl)
 have:=hk.a0;have:=hk.b0
 unfold adjN rawE zfz
 refine⟨List.mem_flatMap.2 ⟨l,hl,List.mem_append.2 (.inl ?_)⟩,List.mem_flatMap.2 ⟨l,hl,List.mem_append.2 (.inr ?_)⟩⟩
 ·rw[if_pos (by omega)];exact List.mem_singleton.2 rfl
 ·rw[if_pos (by omega)];exact List.mem_singleton.2 rfl
end Go.Proofs.YtcdhlofhhcgohaaGreat
namespace Go.Proofs.YtcdhlofhhcgohaaGreat
def insP (e:Int):List Int→List Int
 | []=>[e]
 | x::r=>if e≤x then e::x::r else x::insP e r
def isoP : List Int→List Int
 | []=>[]
 | e::r=>insP e (isoP r)
theorem zg0 (e:Int):∀ l,(insP e l).Perm (e::l)
 | []=>.refl _
 | x::r=>by
  unfold insP
  split
  ·exact .refl _
  ·exact((zg0 e r).cons x).trans (.swap e x r)
theorem zg1 : ∀ l,(isoP l).Perm l
 | []=>.refl _
 | e::r=>(zg0 e _).trans ((zg1 r).cons e)
theorem zg2 {e:Int}:∀ {l:List Int},l.Pairwise (· ≤ ·)→(insP e l).Pairwise (· ≤ ·)
 | [],_=>by simp[insP]
 | x::r,h=>by
  unfold insP
  obtain⟨h1,h2⟩:=List.pairwise_cons.1 h
  split
  ·rename_i hx
   refine List.pairwise_cons.2 ⟨fun y hy=>?_,h⟩
   rcases List.mem_cons.1 hy with rfl|hy
   ·exact hx
   ·exact Int.le_trans hx (h1 y hy)
  ·rename_i hx
   refine List.pairwise_cons.2 ⟨fun y hy=>?_,zg2 h2⟩
   rcases List.mem_cons.1 ((zg0 e r).mem_iff.1 hy)with rfl|hy
   ·omega
   ·exact h1 y hy
theorem zeQ : ∀ l,(isoP l).Pairwise (· ≤ ·)
 | []=>.nil
 | _e::r=>zg2 (zeQ r)
theorem zpb (l:List Int):zcj l=isoP l:=by
 unfold zcj
 refine List.Perm.eq_of_pairwise (le:=fun a b:Int=>a≤b) (fun a b _ _ h1 h2=>by omega) ?_ (zeQ l) ((List.mergeSort_perm l _).trans (zg1 l).symm)
 have:=List.pairwise_mergeSort (le:=fun x y:Int=>decide (x≤y)) (fun a b c h1 h2=>by simp at *;omega) (fun a b=>by simp;omega) l
 exact this.imp fun h=>by simpa using h
theorem zpc (ls:List Link) (i:Int):zah ls i=isoP (rawP ls i):=by rw[zaW];exact zpb _
end Go.Proofs.YtcdhlofhhcgohaaGreat
namespace Go.Proofs.YtcdhlofhhcgohaaGreat
open Go.RowKit
def gv (g:List Int) (i:Nat):Int:=(g[i]?).getD 0
theorem zt0 {g:List Int} {i:Nat} (hi:i<g.length):g[i]? = some (gv g i):=by
 unfold gv;rw[List.getElem?_eq_getElem hi];rfl
def inK (k:Nat) (ls:List Link):Prop:=∀ l∈ls,l.a.toNat<k∧l.b.toNat<k∧l.a.toNat≠l.b.toNat∧1≤l.cost
inductive Conn (ls:List Link):Nat→Nat→Prop
 | refl (i:Nat):Conn ls i i
 | ab {i:Nat} {l:Link} (h:Conn ls i l.a.toNat) (hl:l∈ls):Conn ls i l.b.toNat
 | ba {i:Nat} {l:Link} (h:Conn ls i l.b.toNat) (hl:l∈ls):Conn ls i l.a.toNat
def labelled (ls:List Link) (k:Nat) (g:List Int):Prop:=∀ i,i<k→∃ m:Nat,gv g i=m∧m<k∧Conn ls m i
section
variable {ls : List Link} {k : Nat} {g : List Int} (hlen : g.length = k) (hK : inK k ls) (hg : labelled ls k g)
include hlen hK hg
end
end Go.Proofs.YtcdhlofhhcgohaaGreat
namespace Go.Proofs.YtcdhlofhhcgohaaGreat
open Go.RowKit
def hitL (b p:Int) (l:Link):Bool:=(decide (l.a=b) && decide (l.pa=p)) || (decide (l.b=b) && decide (l.pb=p))
def zcl (ls:List Link) (b:Int) (P:Nat):List Int:=(List.range P).flatMap fun q:Nat=>(ls.filter (hitL b ((q:Int)+1))).map fun _=>(q:Int)+1
theorem zdL (ls:List Link) (b:Int) (P:Nat):zcl ls b (P+1)=zcl ls b P++(ls.filter (hitL b ((P:Int)+1))).map fun _=>(P:Int)+1:=by
 unfold zcl
 rw[List.range_succ,List.flatMap_append]
 simp
theorem zif {ls:List Link} {b:Int}:∀ {P:Nat} {x:Int},x∈zcl ls b P→1≤x∧x≤P
 | 0,x,h=>by simp[zcl]at h
 | P+1,x,h=>by
  rw[zdL]at h
  rcases List.mem_append.1 h with h|h
  ·have:=zif h;omega
  ·obtain⟨_,_,rfl⟩:=List.mem_map.1 h;omega
theorem zfe (ls:List Link) (b:Int):∀ P,(zcl ls b P).Pairwise (· ≤ ·)
 | 0=>by simp[zcl]
 | P+1=>by
  rw[zdL]
  refine List.pairwise_append.2 ⟨zfe ls b P,?_,fun x hx y hy=>?_⟩
  ·rw[List.pairwise_map];exact List.pairwise_of_forall (fun _ _=>Int.le_refl _)
  ·obtain⟨_,_,rfl⟩:=List.mem_map.1 hy
   have:=zif hx;omega
theorem zig (ls:List Link) (b:Int):∀ P,(zcl ls b P).length≤P*ls.length
 | 0=>by simp[zcl]
 | P+1=>by
  have h1:=zig ls b P
  have h2:=List.length_filter_le (hitL b ((P:Int)+1)) ls
  rw[zdL,List.length_append,List.length_map,Nat.succ_mul]
  omega
theorem zg3 {α β:Type} (f g:α→List β):∀ l:List α,(l.flatMap fun x=>f x++g x).Perm (l.flatMap f++l.flatMap g)
 | []=>by simp
 | a::r=>by
  have ih:=zg3 f g r
  simp only[List.flatMap_cons]
  have h1:(f a++g a++(r.flatMap fun x=>f x++g x)).Perm (f a++g a++(r.flatMap f++r.flatMap g)):=List.Perm.append_left _ ih
  refine h1.trans ?_
  rw[List.append_assoc,List.append_assoc]
  refine List.Perm.append_left _ ?_
  rw[←List.append_assoc,←List.append_assoc]
  exact List.Perm.append_right _ List.perm_append_comm
theorem zeR {c:Int}:∀ (P:Nat),(List.range P).flatMap (fun q:Nat=>if c=(q:Int)+1 then [(q:Int)+1]else [])=if 1≤c∧c≤P then [c]else []
 | 0=>by rw[if_neg (by omega)];rfl
 | P+1=>by
  rw[List.range_succ,List.flatMap_append,zeR P]
  simp only[List.flatMap_cons,List.flatMap_nil,List.append_nil]
  by_cases h:c=(P:Int)+1
  ·rw[if_neg (by omega),if_pos h,if_pos (by omega),h];rfl
  ·rw[if_neg h,List.append_nil]
   by_cases h2:1≤c∧c≤P
   ·rw[if_pos h2,if_pos (by omega)]
   ·rw[if_neg h2,if_neg (by omega)]
theorem zsU {k:Nat} {l:Link} (h:l.ok k) (b:Int):(List.range 30).flatMap (fun q:Nat=>if hitL b ((q:Int)+1) l=true then [(q:Int)+1]else [])=zd1 b l:=by
 have hpa:=h.pa
 have hpb:=h.pb
 have hne:=h.ne
 unfold zd1 hitL
 by_cases ha:l.a=b
 ·have hb:¬l.b=b:=by omega
  rw[if_pos ha,if_neg hb,List.append_nil]
  have:=zeR (c:=l.pa) 30
  rw[if_pos (by omega)]at this
  rw[←this]
  congr 1
  funext q
  simp[ha,hb]
 ·rw[if_neg ha,List.nil_append]
  by_cases hb:l.b=b
  ·rw[if_pos hb]
   have:=zeR (c:=l.pb) 30
   rw[if_pos (by omega)]at this
   rw[←this]
   congr 1
   funext q
   simp[ha,hb]
  ·rw[if_neg hb]
   simp[ha,hb]
theorem zg4 {k:Nat} (b:Int):∀ {ls:List Link},(∀ l∈ls,l.ok k)→(zcl ls b 30).Perm (rawP ls b)
 | [],_=>by
  have:zcl [] b 30=[]:=by simp[zcl]
  rw[this];exact List.Perm.refl _
 | l::r,h=>by
  have h1:zcl (l::r) b 30=(List.range 30).flatMap fun q:Nat=>(if hitL b ((q:Int)+1) l=true then [(q:Int)+1]else [])++((r.filter (hitL b ((q:Int)+1))).map fun _=>(q:Int)+1):=by
   unfold zcl
   congr 1
   funext q
   rw[List.filter_cons]
   split<;>simp
  rw[h1]
  refine(zg3 _ _ _).trans ?_
  rw[zsU (h l (List.mem_cons_self ..)) b]
  exact List.Perm.append_left _ (zg4 b fun x hx=>h x (List.mem_cons_of_mem _ hx))
theorem zpd {k:Nat} (b:Int) {ls:List Link} (h:∀ l∈ls,l.ok k):zcl ls b 30=zah ls b:=by
 rw[zpc]
 exact List.Perm.eq_of_pairwise (le:=fun a b:Int=>a≤b) (fun a b _ _ h1 h2=>by omega) (zfe ls b 30) (zeQ _) ((zg4 b h).trans (zg1 _).symm)
end Go.Proofs.YtcdhlofhhcgohaaGreat
namespace Go.Proofs.YtcdhlofhhcgohaaGreat
open Go.RowKit
section
variable {n : Net} (h : n.good) (tree : Int)
include h
theorem zsV {i:Nat} (p:Int):(za3 n).any (hitL i p)=(zaL n i).any (fun e=>decide (e.port=p)):=by
 rw[Bool.eq_iff_iff,List.any_eq_true,List.any_eq_true]
 constructor
 ·rintro⟨l,hl,hh⟩
  unfold hitL at hh
  simp only[Bool.or_eq_true,Bool.and_eq_true,decide_eq_true_eq]at hh
  have hk:=h.lk l (zel hl)
  have a0:=hk.a0
  have b0:=hk.b0
  obtain⟨a1,a2⟩:=zlE h hl
  rcases hh with⟨e1,e2⟩|⟨e1,e2⟩
  ·rw[show l.a.toNat=i by omega]at a1
   exact⟨_,zco.2 a1,decide_eq_true e2⟩
  ·rw[show l.b.toNat=i by omega]at a2
   exact⟨_,zco.2 a2,decide_eq_true e2⟩
 ·rintro⟨e,he,hp⟩
  have hp:=of_decide_eq_true hp
  have he:=zco.1 he
  unfold rawE zfz at he
  obtain⟨l,hl,he⟩:=List.mem_flatMap.1 he
  refine⟨l,hl,?_⟩
  unfold hitL
  simp only[Bool.or_eq_true,Bool.and_eq_true,decide_eq_true_eq]
  rcases List.mem_append.1 he with he|he
  ·split at he
   ·rename_i ha;simp only[List.mem_singleton]at he;subst he;exact .inl ⟨ha,hp⟩
   ·cases he
  ·split at he
   ·rename_i ha;simp only[List.mem_singleton]at he;subst he;exact .inr ⟨ha,hp⟩
   ·cases he
end
end Go.Proofs.YtcdhlofhhcgohaaGreat
