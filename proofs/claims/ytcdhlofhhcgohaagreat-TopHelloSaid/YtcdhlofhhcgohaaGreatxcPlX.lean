/- How bridges come to stand, round by round: mathematics. -/
import Derived.Test.YtcdhlofhhcgohaaGreatxcPlP
import Derived.Test.YtcdhlofhhcgohaaGreatxbLnd
namespace Go.Proofs.YtcdhlofhhcgohaaGreat
open Go.RowKit
structure Net.typed (n:Net):Prop where
 ad:∀ b∈n.bridges,0≤b.addr
 wy:∀ b∈n.bridges,b.region.ways.length≤9223372036854775807
def sidesP (ls:List Link):List (Int×Int):=ls.flatMap fun l=>[(l.a,l.pa),(l.b,l.pb)]
structure Net.good (n:Net):Prop where
 nb:n.bridges.length≤12
 nl:n.links.length≤40
 br:∀ b∈n.bridges,b.ok
 ad:n.bridges.Pairwise fun a b=>a.addr≠b.addr
 lk:∀ l∈n.links,l.ok n.bridges.length
 po:(sidesP n.links).Nodup
theorem Bridge.wrong_ok {b:Bridge} (h0:0≤b.addr):b.wrong=0↔b.ok∧b.region.wrong=0:=by
 unfold Bridge.wrong
 constructor
 ·intro h
  split at h
  ·omega
  split at h
  ·omega
  split at h
  ·omega
  rename_i h1 h2 h3
  refine⟨⟨h0,by omega,by omega,fun p hp hb=>h3 (List.any_eq_true.2 ⟨p,hp,decide_eq_true hb⟩),Region.right_of h⟩,h⟩
 ·rintro⟨h,hr⟩
  rw[if_neg (by have:=h.a1;omega),if_neg (by have:=h.n;omega),if_neg,hr]
  intro h3
  obtain⟨p,hp,hb⟩:=List.any_eq_true.1 h3
  exact h.p p hp (of_decide_eq_true hb)
theorem Link.wrong_ok {k:Nat} {l:Link}:l.wrong k=0↔l.ok k:=by
 unfold Link.wrong
 constructor
 ·intro h
  split at h
  ·omega
  split at h
  ·omega
  split at h
  ·omega
  exact⟨by omega,by omega,by omega,by omega,by omega,by omega,by omega,by omega⟩
 ·rintro⟨h1,h2,h3,h4,h5,h6,h7,h8⟩
  rw[if_neg (by omega),if_neg (by omega),if_neg (by omega)]
theorem wrongBr_none : ∀ (l seen:List Bridge) (i:Nat),wrongBr seen i l=none↔(∀ b∈l,b.wrong=0)∧l.Pairwise (fun a b=>a.addr≠b.addr)∧∀ a∈seen,∀ b∈l,a.addr≠b.addr
 | [],seen,i=>by simp[wrongBr]
 | b :: r,seen,i=>by
  rw[wrongBr]
  by_cases h1:b.wrong=0
  ·rw [if_neg (by simpa using h1)]
   by_cases h2:seen.any (fun o=>decide (o.addr=b.addr))=true
   ·rw[if_pos h2]
    obtain⟨a,ha,e⟩:=List.any_eq_true.1 h2
    constructor
    ·intro h;cases h
    ·rintro⟨_,_,h⟩
     exact absurd (of_decide_eq_true e) (h a ha b (List.mem_cons_self ..))
   ·rw[if_neg h2,wrongBr_none r _ _]
    have h2':∀ a∈seen,a.addr≠b.addr:=fun a ha e=>h2 (List.any_eq_true.2 ⟨a,ha,decide_eq_true e⟩)
    simp only[List.mem_cons,List.pairwise_cons,List.mem_append,forall_eq_or_imp]
    constructor
    ·rintro⟨g1,g2,g3⟩
     exact⟨⟨h1,g1⟩,⟨fun a ha=>g3 b (by simp) a ha,g2⟩,fun a ha=>⟨h2' a ha,fun c hc=>g3 a (.inl ha) c hc⟩⟩
    ·rintro⟨⟨_,g1⟩,⟨g2,g3⟩,g4⟩
     refine⟨g1,g3,fun a ha c hc=>?_⟩
     rcases ha with ha|ha
     ·exact(g4 a ha).2 c hc
     ·simp at ha;subst ha;exact g2 c hc
  ·rw[if_pos h1]
   constructor
   ·intro h;cases h
   ·rintro⟨h,_⟩
    exact absurd (h b (List.mem_cons_self ..)) h1
theorem wrongBr_some : ∀ (l seen:List Bridge) (i:Nat) (f:Int×Nat),wrongBr seen i l=some f→f.1≠0
 | [],seen,i,f=>by simp[wrongBr]
 | b::r,seen,i,f=>by
  rw[wrongBr]
  split
  ·rename_i h;rintro⟨rfl⟩;exact h
  split
  ·rintro⟨rfl⟩;simp
  ·exact wrongBr_some r _ _ f
theorem wrongLk_none (k:Nat):∀ (l:List Link) (had:List (Int×Int)) (i:Nat),wrongLk k had i l=none↔(∀ x∈l,x.wrong k=0)∧(sidesP l).Nodup∧∀ a∈had,a∉sidesP l
 | [],had,i=>by simp[wrongLk,sidesP]
 | x :: r,had,i=>by
  have hs:sidesP (x::r)=(x.a,x.pa)::(x.b,x.pb)::sidesP r:=rfl
  rw[wrongLk,hs]
  by_cases h1:x.wrong k=0
  ·rw [if_neg (by simpa using h1)]
   by_cases h2:(x.a,x.pa)∈had
   ·rw[if_pos h2]
    exact⟨fun h=>(by cases h),fun⟨_,_,h⟩=>absurd (List.mem_cons_self ..) (h _ h2)⟩
   rw[if_neg h2]
   by_cases h3:(x.b,x.pb)∈had++[(x.a,x.pa)]
   ·rw[if_pos h3]
    refine⟨fun h=>(by cases h),fun⟨_,h4,h⟩=>?_⟩
    rcases List.mem_append.1 h3 with h3|h3
    ·exact absurd (List.mem_cons_of_mem _ (List.mem_cons_self ..)) (h _ h3)
    ·simp only[List.mem_singleton]at h3
     rw[h3]at h4
     simp at h4
   rw[if_neg h3,wrongLk_none k r _ _]
   simp only[List.mem_append,List.mem_singleton,not_or]at h3
   simp only[List.mem_cons,List.nodup_cons,not_or,List.mem_append,List.not_mem_nil,or_false,forall_eq_or_imp]
   constructor
   ·rintro⟨g1,g2,g3⟩
    refine⟨⟨h1,g1⟩,⟨⟨fun e=>h3.2 e.symm,g3 _ (.inl (.inr rfl))⟩,g3 _ (.inr rfl),g2⟩,fun a ha=>⟨fun e=>h2 (e▸ha),fun e=>h3.1 (e▸ha),g3 a (.inl (.inl ha))⟩⟩
   ·rintro⟨⟨_,g1⟩,⟨⟨_,g2⟩,g3,g4⟩,g5⟩
    refine⟨g1,g4,fun a ha=>?_⟩
    rcases ha with(ha|rfl)|rfl
    ·exact(g5 a ha).2.2
    ·exact g2
    ·exact g3
  ·rw[if_pos h1]
   exact⟨fun h=>(by cases h),fun⟨h,_⟩=>absurd (h x (List.mem_cons_self ..)) h1⟩
theorem wrongLk_some (k:Nat):∀ (l:List Link) (had:List (Int×Int)) (i:Nat) (f:Int×Nat),wrongLk k had i l=some f→f.1≠0
 | [],had,i,f=>by simp[wrongLk]
 | x::r,had,i,f=>by
  rw[wrongLk]
  split
  ·rename_i h;rintro⟨rfl⟩;exact h
  split
  ·rintro⟨rfl⟩;simp
  split
  ·rintro⟨rfl⟩;simp
  ·exact wrongLk_some k r _ _ f
theorem Net.wrong_iff {n:Net} (ht:n.typed):n.wrong.1=0↔n.good∧∀ b∈n.bridges,b.region.wrong=0:=by
 unfold Net.wrong
 by_cases h0:12<n.bridges.length∨40<n.links.length
 ·rw[if_pos h0]
  exact⟨fun h=>(by simp at h),fun⟨h,_⟩=>(by have:=h.nb;have:=h.nl;omega)⟩
 rw[if_neg h0]
 cases hb:wrongBr [] 0 n.bridges with
 | some f =>
  have:=wrongBr_some _ _ _ _ hb
  refine⟨fun h=>absurd h this,fun⟨h,hr⟩=>?_⟩
  have hn:wrongBr [] 0 n.bridges=none:=(wrongBr_none _ _ _).2 ⟨fun b h'=>(Bridge.wrong_ok (ht.ad b h')).2 ⟨h.br b h',hr b h'⟩,h.ad,by simp⟩
  rw[hn]at hb;cases hb
 | none =>
  obtain⟨b1,b2,_⟩:=(wrongBr_none _ _ _).1 hb
  cases hl:wrongLk n.bridges.length [] 0 n.links with
  | some f =>
   have:=wrongLk_some _ _ _ _ _ hl
   refine⟨fun h=>absurd h this,fun⟨h,hr⟩=>?_⟩
   have hn:wrongLk n.bridges.length [] 0 n.links=none:=(wrongLk_none _ _ _ _).2 ⟨fun l h'=>Link.wrong_ok.2 (h.lk l h'),h.po,by simp⟩
   rw[hn]at hl;cases hl
  | none =>
   obtain⟨l1,l2,_⟩:=(wrongLk_none _ _ _ _).1 hl
   refine⟨fun _=>⟨⟨by omega,by omega,fun b h'=>((Bridge.wrong_ok (ht.ad b h')).1 (b1 b h')).1,b2,fun l h'=>Link.wrong_ok.1 (l1 l h'),l2⟩,fun b h'=>((Bridge.wrong_ok (ht.ad b h')).1 (b1 b h')).2⟩,fun _=>rfl⟩
theorem Net.wrong_zero {n:Net} (h:n.wrong.1=0):n.wrong=(0,0):=by
 unfold Net.wrong at *
 split at h
 ·simp at h
 rename_i h0
 rw[if_neg h0]
 cases hb:wrongBr [] 0 n.bridges with
 | some f=>rw[hb]at h;exact absurd h (wrongBr_some _ _ _ _ hb)
 | none =>
  rw[hb]at h
  cases hl:wrongLk n.bridges.length [] 0 n.links with
  | some f=>rw[hl]at h;exact absurd h (wrongLk_some _ _ _ _ _ hl)
  | none=>rfl
def sides (ls:List Link):List ((Int×Int)×End):=ls.flatMap fun l=>[((l.a,l.pa),⟨l.pa,l.cost,l.b,l.pb⟩),((l.b,l.pb),⟨l.pb,l.cost,l.a,l.pa⟩)]
theorem sides_fst (ls:List Link):(sides ls).map (·.1)=sidesP ls:=by
 unfold sides sidesP
 induction ls with
 | nil=>rfl
 | cons l r ih=>simp only[List.flatMap_cons,List.map_append,ih];rfl
theorem assoc_one {α β:Type}:∀ {l:List (α×β)} {k:α} {x y:β},(l.map (·.1)).Nodup→(k,x)∈l→(k,y)∈l→x=y
 | [],_,_,_,_,h,_=>by cases h
 | (k',z)::r,k,x,y,hn,h1,h2=>by
  simp only[List.map_cons,List.nodup_cons]at hn
  have key:∀ {w:β},(k',w)∈r→False:=fun {w} hw=>hn.1 (List.mem_map.2 ⟨(k',w),hw,rfl⟩)
  rcases List.mem_cons.1 h1 with e1|j1<;>rcases List.mem_cons.1 h2 with e2|j2
  ·injection e1 with _ e1;injection e2 with _ e2;rw[e1,e2]
  ·injection e1 with e1 _;subst e1;exact(key j2).elim
  ·injection e2 with e2 _;subst e2;exact(key j1).elim
  ·exact assoc_one hn.2 j1 j2
theorem rawE_side {ls:List Link} {i:Nat} {e:End} (h:e∈rawE ls i):(((i:Int),e.port),e)∈sides ls:=by
 unfold rawE at h
 obtain⟨l,hl,he⟩:=List.mem_flatMap.1 h
 refine List.mem_flatMap.2 ⟨l,hl,?_⟩
 unfold endAt at he
 rcases List.mem_append.1 he with he|he
 ·split at he
  ·rename_i ha;simp only[List.mem_singleton]at he;subst he;rw[←ha];exact List.mem_cons_self ..
  ·cases he
 ·split at he
  ·rename_i ha;simp only[List.mem_singleton]at he;subst he;rw[←ha];exact List.mem_cons_of_mem _ (List.mem_cons_self ..)
  ·cases he
theorem sides_mono {ls ls':List Link} (h:∀ l∈ls,l∈ls') {x:(Int×Int)×End} (hx:x∈sides ls):x∈sides ls':=by
 obtain⟨l,hl,he⟩:=List.mem_flatMap.1 hx
 exact List.mem_flatMap.2 ⟨l,h l hl,he⟩
theorem live_sub {n:Net} {l:Link} (h:l∈liveL n):l∈n.links:=(List.mem_filter.1 h).1
theorem Net.good.end_one {n:Net} (h:n.good) {i:Nat} {x y:End} (hx:x∈rawE (liveL n) i) (hy:y∈rawE (liveL n) i) (hp:x.port=y.port):x=y:=by
 have hn:((sides n.links).map (·.1)).Nodup:=by rw[sides_fst];exact h.po
 have h1:=sides_mono (fun l=>live_sub (n:=n)) (rawE_side hx)
 have h2:=sides_mono (fun l=>live_sub (n:=n)) (rawE_side hy)
 rw[←hp]at h2
 exact assoc_one hn h1 h2
theorem rawE_ok {n:Net} (h:n.good) {i:Nat} {e:End} (he:e∈rawE (liveL n) i):(1≤e.port∧e.port≤30)∧(1≤e.cost∧e.cost≤200000)∧(0≤e.other∧e.other<n.bridges.length)∧(1≤e.oport∧e.oport≤30)∧e.other≠i:=by
 unfold rawE at he
 obtain⟨l,hl,he⟩:=List.mem_flatMap.1 he
 have hk:=h.lk l (live_sub hl)
 unfold endAt at he
 rcases List.mem_append.1 he with he|he
 ·split at he
  ·rename_i ha;simp only[List.mem_singleton]at he;subst he;exact⟨hk.pa,hk.c,⟨hk.b0,hk.b1⟩,hk.pb,by have:=hk.ne;simp only;omega⟩
  ·cases he
 ·split at he
  ·rename_i ha;simp only[List.mem_singleton]at he;subst he;exact⟨hk.pb,hk.c,⟨hk.a0,hk.a1⟩,hk.pa,by have:=hk.ne;simp only;omega⟩
  ·cases he
theorem mem_endsOf {n:Net} {i:Nat} {e:End}:e∈endsOf n i↔e∈rawE (liveL n) i:=by
 unfold endsOf sortE;exact List.mem_mergeSort
theorem endsOf_len (n:Net) (i:Nat):(endsOf n i).length≤2*n.links.length:=by
 unfold endsOf
 rw[sortE_len]
 have h1:=rawE_le (liveL n) i
 have h2:(liveL n).length≤n.links.length:=List.length_filter_le _ _
 omega
end Go.Proofs.YtcdhlofhhcgohaaGreat
namespace Go.Proofs.YtcdhlofhhcgohaaGreat
theorem Vec.cmp_lt {a b:Vec}:a.cmp b<0↔a.root<b.root∨(a.root=b.root∧(a.cost<b.cost∨(a.cost=b.cost∧(a.bridge<b.bridge∨(a.bridge=b.bridge∧a.port<b.port))))):=by
 exact Vec.cmp_neg
theorem Vec.cmp_eq {a b:Vec}:a.cmp b=0↔a.root=b.root∧a.cost=b.cost∧a.bridge=b.bridge∧a.port=b.port:=by
 unfold Vec.cmp
 simp only[orI,cmpI]
 repeat' split
 all_goals (first|omega|(constructor<;>intro h<;>omega))
def Offer.elig (id:Int) (o:Offer) (w:Vec):Prop:=o.vec.over o.cost=some w∧0≤o.port∧0≤o.age∧o.age<20∧w.root<id
def Vec.le2 (a:Vec) (p:Int) (b:Vec) (q:Int):Prop:=a.cmp b<0∨(a.cmp b=0∧p≤q)
theorem Vec.le2_trans {a b c:Vec} {p q r:Int} (h:a.le2 p b q) (k:b.le2 q c r):a.le2 p c r:=by
 unfold Vec.le2 at *
 simp only[Vec.cmp_lt,Vec.cmp_eq]at *
 omega
theorem Vec.le2_refl (a:Vec) (p:Int):a.le2 p a p := .inr ⟨Vec.cmp_eq.2 ⟨rfl,rfl,rfl,rfl⟩,Int.le_refl _⟩
theorem Vec.le2_antisymm {a b:Vec} {p q:Int} (h:a.le2 p b q) (k:b.le2 q a p):a.root=b.root∧a.cost=b.cost∧a.bridge=b.bridge∧a.port=b.port∧p=q:=by
 unfold Vec.le2 at *
 simp only[Vec.cmp_lt,Vec.cmp_eq]at *
 omega
theorem Vec.le2_total (a b:Vec) (p q:Int):¬(a.cmp b<0∨(a.cmp b=0∧p<q))→b.le2 q a p:=by
 unfold Vec.le2
 simp only[Vec.cmp_lt,Vec.cmp_eq]
 omega
theorem Vec.le2_of_lt {a b:Vec} {p q:Int} (h:a.cmp b<0∨(a.cmp b=0∧p<q)):a.le2 p b q:=by
 unfold Vec.le2
 rcases h with h|h
 ·exact .inl h
 ·exact .inr ⟨h.1,by omega⟩
structure Ch.Inv (id:Int) (l:List Offer) (c:Ch):Prop where
 neg:c.port<0→c = .start id
 some:0≤c.port→∃ o∈l,o.elig id c.best∧o.port=c.port∧c.age=o.age+1
 min:∀ o∈l,∀ w,o.elig id w→0≤c.port∧c.best.le2 c.port w o.port
theorem Ch.inv_step {id:Int} {l:List Offer} {c:Ch} {o:Offer} (h:Ch.Inv id l c):Ch.Inv id (l++[o]) (c.step id o):=by
 by_cases he:∃ w,o.elig id w
 ·obtain ⟨w,hw⟩:=he
  have hi:=hw.1
  have e:c.step id o=if(c.port<0∨((o.vec.over o.cost).getD .zero).cmp c.best<0∨(((o.vec.over o.cost).getD .zero).cmp c.best=0∧o.port<c.port))then⟨(o.vec.over o.cost).getD .zero,o.age+1,o.port⟩else c :=
   Ch.step_in (by rw[hi];rfl) hw.2.1 hw.2.2.1 hw.2.2.2.1 (by rw[hi];exact hw.2.2.2.2)
  rw[hi]at e
  simp only[Option.getD_some]at e
  have huniq:∀ w',o.elig id w'→w'=w:=fun w' h'=>by
   have:=h'.1.symm.trans hw.1
   injection this
  by_cases hc:c.port<0∨w.cmp c.best<0∨(w.cmp c.best=0∧o.port<c.port)
  ·rw [e,if_pos hc]
   refine⟨fun hn=>?_,fun _=>⟨o,by simp,hw,rfl,rfl⟩,fun o' ho' w' hw'=>⟨hw.2.1,?_⟩⟩
   ·have:=hw.2.1;simp only at hn;omega
   ·rcases List.mem_append.1 ho' with h1|h1
    ·obtain⟨k1,k2⟩:=h.min o' h1 w' hw'
     rcases hc with hc|hc
     ·omega
     ·exact Vec.le2_trans (Vec.le2_of_lt hc) k2
    ·simp at h1;subst h1
     rw[huniq w' hw']
     exact Vec.le2_refl _ _
  ·rw [e,if_neg hc]
   have hp:0≤c.port:=by omega
   refine⟨h.neg,fun hp=>?_,fun o' ho' w' hw'=>⟨hp,?_⟩⟩
   ·obtain⟨o',h1,h2⟩:=h.some hp
    exact⟨o',by simp[h1],h2⟩
   ·rcases List.mem_append.1 ho' with h1|h1
    ·exact(h.min o' h1 w' hw').2
    ·simp at h1;subst h1
     rw[huniq w' hw']
     exact Vec.le2_total _ _ _ _ (fun hh=>hc (.inr hh))
 ·have e:c.step id o=c:=Ch.step_skip (fun h0 h1 h2 h3=>by
   obtain⟨w,hw⟩:=Option.isSome_iff_exists.1 h0
   rw[hw]
   simp only[Option.getD_some]
   by_cases hr:w.root<id
   ·exact absurd ⟨w,hw,h1,h2,h3,hr⟩ he
   ·omega)
  rw[e]
  refine⟨h.neg,fun hp=>?_,fun o' ho' w' hw'=>?_⟩
  ·obtain⟨o',h1,h2⟩:=h.some hp
   exact⟨o',by simp[h1],h2⟩
  ·rcases List.mem_append.1 ho' with h1|h1
   ·exact h.min o' h1 w' hw'
   ·simp at h1;subst h1
    exact absurd ⟨w',hw'⟩ he
theorem Ch.inv_fold {id:Int}:∀ (r l:List Offer) (c:Ch),Ch.Inv id l c→Ch.Inv id (l++r) (r.foldl (Ch.step id) c)
 | [],l,c,h=>by simpa using h
 | o::r,l,c,h=>by
  have:=Ch.inv_fold r (l++[o]) (c.step id o) (Ch.inv_step h)
  simpa using this
theorem choose_inv (id:Int) (l:List Offer):Ch.Inv id l (chooseS id l):=by
 have:=Ch.inv_fold (id:=id) l [] (.start id) ⟨fun _=>rfl,fun h=>by simp[Ch.start]at h,fun o h=>by simp at h⟩
 simpa[chooseS]using this
end Go.Proofs.YtcdhlofhhcgohaaGreat
namespace Go.Proofs.YtcdhlofhhcgohaaGreat
def leL (r c r' c':Int):Prop:=r<r'∨(r=r'∧c≤c')
theorem leL_trans {a b c d e f:Int} (h:leL a b c d) (k:leL c d e f):leL a b e f:=by unfold leL at *;omega
theorem leL_anti {a b c d:Int} (h:leL a b c d) (k:leL c d a b):a=c∧b=d:=by unfold leL at *;omega
theorem leL_refl (a b:Int):leL a b a b:=by unfold leL;omega
theorem leL_add {a b c d:Int} (e:Int) (h:leL a b c d):leL a (b+e) c (d+e):=by unfold leL at *;omega
def idN (n:Net) (tree:Int) (i:Nat):Int:=((n.bridges[i]?).map (·.id tree)).getD 0
theorem idN_of {n:Net} {tree:Int} {i:Nat} {b:Bridge} (h:n.bridges[i]? = some b):idN n tree i=b.id tree:=by unfold idN;rw[h];rfl
def sayN (n:Net) (tree:Int) (t i:Nat):Vec:=((saysN n tree t)[i]?).getD .zero
theorem sayN_get {n:Net} {tree:Int} {t i:Nat} (h:i<n.bridges.length):(saysN n tree t)[i]? = some (sayN n tree t i):=by
 unfold sayN;rw[List.getElem?_eq_getElem (by rw[saysN_len];exact h)];rfl
def adjN (n:Net) (i:Nat) (e:End):Prop:=e∈rawE (liveL n) i
theorem adj_sym {n:Net} (h:n.good) {i:Nat} {e:End} (he:adjN n i e):adjN n e.other.toNat ⟨e.oport,e.cost,i,e.port⟩:=by
 unfold adjN rawE at *
 obtain⟨l,hl,he⟩:=List.mem_flatMap.1 he
 have hk:=h.lk l (live_sub hl)
 refine List.mem_flatMap.2 ⟨l,hl,?_⟩
 unfold endAt at *
 rcases List.mem_append.1 he with he|he
 ·split at he
  ·rename_i ha
   simp only[List.mem_singleton]at he;subst he
   refine List.mem_append.2 (.inr ?_)
   have:=hk.b0
   simp only
   rw[if_pos (by omega),ha]
   exact List.mem_singleton.2 rfl
  ·cases he
 ·split at he
  ·rename_i ha
   simp only[List.mem_singleton]at he;subst he
   refine List.mem_append.2 (.inl ?_)
   have:=hk.a0
   simp only
   rw[if_pos (by omega),ha]
   exact List.mem_singleton.2 rfl
  ·cases he
theorem adj_ok {n:Net} (h:n.good) {i:Nat} {e:End} (he:adjN n i e):(1≤e.port∧e.port≤30)∧(1≤e.cost∧e.cost≤200000)∧e.other.toNat<n.bridges.length∧0≤e.other∧e.other≠i:=by
 obtain⟨h1,h2,h3,_,h4⟩:=rawE_ok h he
 exact⟨h1,h2,by omega,h3.1,h4⟩
theorem sayN_ids {n:Net} {tree:Int} {t i:Nat} (h:i<n.bridges.length):(sayN n tree t i).bridge=idN n tree i∧(sayN n tree t i).port=0:=by
 have hb:=List.getElem?_eq_getElem h
 unfold sayN
 cases t with
 | zero=>simp[saysN,says0,h,idN_of hb]
 | succ t=>simp[saysN,round1,h,saysOf,nextS,idN_of hb,Ch.says]
theorem sayN_zero {n:Net} {tree:Int} {i:Nat} (h:i<n.bridges.length):(sayN n tree 0 i).root=idN n tree i∧(sayN n tree 0 i).cost=0:=by
 have hb:=List.getElem?_eq_getElem h
 unfold sayN
 simp[saysN,says0,h,idN_of hb]
def chN (n:Net) (tree:Int) (t i:Nat):Ch:=chooseS (idN n tree i) (offersOf (endsOf n i) (saysN n tree t))
theorem sayN_succ {n:Net} {tree:Int} {t i:Nat} (h:i<n.bridges.length):(sayN n tree (t+1) i).root=(chN n tree t i).best.root∧(sayN n tree (t+1) i).cost=(chN n tree t i).best.cost:=by
 have hb:=List.getElem?_eq_getElem h
 unfold sayN chN
 simp[saysN,round1,h,saysOf,nextS,idN_of hb,Ch.says]
theorem offer_mem {n:Net} {says:List Vec} {i:Nat} {o:Offer}:o∈offersOf (endsOf n i) says↔∃ e,adjN n i e∧o=offerOf says e:=by
 unfold offersOf adjN
 rw[List.mem_map]
 constructor
 ·rintro⟨e,he,rfl⟩;exact⟨e,mem_endsOf.1 he,rfl⟩
 ·rintro⟨e,he,rfl⟩;exact⟨e,mem_endsOf.2 he,rfl⟩
theorem offer_eq {n:Net} {tree:Int} (h:n.good) {t i:Nat} {e:End} (he:adjN n i e):offerOf (saysN n tree t) e=⟨e.port,e.cost,0,⟨(sayN n tree t e.other.toNat).root,(sayN n tree t e.other.toNat).cost,idN n tree e.other.toNat,e.oport⟩⟩:=by
 have hj:=(adj_ok h he).2.2.1
 unfold offerOf
 rw[sayN_get hj,Option.getD_some,←(sayN_ids (tree:=tree) (t:=t) hj).1]
theorem cost_le {n:Net} (h:n.good) (tree:Int):∀ (t i:Nat),i<n.bridges.length→0≤(sayN n tree t i).cost∧(sayN n tree t i).cost≤200000*t
 | 0,i,hi=>by rw[(sayN_zero hi).2];omega
 | t + 1,i,hi=>by
  rw[(sayN_succ hi).2]
  have hc:=choose_inv (idN n tree i) (offersOf (endsOf n i) (saysN n tree t))
  by_cases hp:(chN n tree t i).port<0
  ·rw[show chN n tree t i = .start _ from hc.neg hp];simp only[Ch.start];omega
  ·obtain ⟨o,ho,hel,_⟩:=hc.some (by show 0≤(chN n tree t i).port;omega)
   obtain⟨e,he,rfl⟩:=offer_mem.1 ho
   rw[offer_eq h he]at hel
   have hk:=adj_ok h he
   have ih:=cost_le h tree t _ hk.2.2.1
   have hov:=hel.1
   unfold Vec.over at hov
   split at hov
   ·cases hov
   ·injection hov with hov
    show 0≤(chN n tree t i).best.cost∧(chN n tree t i).best.cost≤_
    have:(chN n tree t i).best.cost=(sayN n tree t e.other.toNat).cost+e.cost:=by
     show(chooseS _ _).best.cost=_
     rw[←hov]
    rw[this];omega
theorem elig_iff {n:Net} (h:n.good) {tree:Int} {t i:Nat} (ht:t≤1000) {e:End} (he:adjN n i e) {w:Vec}:(offerOf (saysN n tree t) e).elig (idN n tree i) w ↔
  w=⟨(sayN n tree t e.other.toNat).root,(sayN n tree t e.other.toNat).cost+e.cost,idN n tree e.other.toNat,e.oport⟩∧(sayN n tree t e.other.toNat).root<idN n tree i:=by
 have hk:=adj_ok h he
 have hc:=cost_le h tree t _ hk.2.2.1
 rw[offer_eq h he]
 unfold Offer.elig Vec.over maxCost
 simp only
 rw[if_neg (by omega)]
 simp only[Option.some.injEq]
 constructor
 ·rintro⟨rfl,_,_,_,h5⟩;exact⟨rfl,h5⟩
 ·rintro⟨rfl,h5⟩;exact⟨rfl,by omega,by omega,by omega,h5⟩
theorem round_at {n:Net} (h:n.good) (tree:Int) {t i:Nat} (ht:t≤1000) (hi:i<n.bridges.length) :
  ((sayN n tree (t+1) i).root=idN n tree i∧(sayN n tree (t+1) i).cost=0∧(chN n tree t i).port = -1∧∀ e,adjN n i e→idN n tree i≤(sayN n tree t e.other.toNat).root) ∨
  ∃ e,adjN n i e∧(sayN n tree (t+1) i).root=(sayN n tree t e.other.toNat).root∧(sayN n tree (t+1) i).cost=(sayN n tree t e.other.toNat).cost+e.cost∧(chN n tree t i).port=e.port∧(sayN n tree t e.other.toNat).root<idN n tree i ∧
   ∀ e',adjN n i e'→(sayN n tree t e'.other.toNat).root<idN n tree i →
    Vec.le2 ⟨(sayN n tree t e.other.toNat).root,(sayN n tree t e.other.toNat).cost+e.cost,idN n tree e.other.toNat,e.oport⟩ e.port ⟨(sayN n tree t e'.other.toNat).root,(sayN n tree t e'.other.toNat).cost+e'.cost,idN n tree e'.other.toNat,e'.oport⟩ e'.port:=by
 have hc:=choose_inv (idN n tree i) (offersOf (endsOf n i) (saysN n tree t))
 rw[(sayN_succ hi).1,(sayN_succ hi).2]
 show(chN n tree t i).best.root=_∧_∨_
 have hc':Ch.Inv (idN n tree i) (offersOf (endsOf n i) (saysN n tree t)) (chN n tree t i):=hc
 generalize chN n tree t i=c at hc' ⊢
 by_cases hp:c.port<0
 ·left
  rw[hc'.neg hp]
  refine⟨rfl,rfl,rfl,fun e he=>?_⟩
  by_cases hr:(sayN n tree t e.other.toNat).root<idN n tree i
  ·have:=(hc'.min _ (offer_mem.2 ⟨e,he,rfl⟩) _ ((elig_iff h ht he).2 ⟨rfl,hr⟩)).1
   omega
  ·omega
 ·right
  obtain⟨o,ho,hel,hpo,_⟩:=hc'.some (by omega)
  obtain⟨e,he,rfl⟩:=offer_mem.1 ho
  have hel':=(elig_iff h ht he).1 hel
  rw[offer_eq h he]at hpo
  refine⟨e,he,by rw[hel'.1],by rw[hel'.1],hpo.symm,hel'.2,fun e' he' hr=>?_⟩
  have hm:=(hc'.min _ (offer_mem.2 ⟨e',he',rfl⟩) _ ((elig_iff h ht he').2 ⟨rfl,hr⟩)).2
  rw[hel'.1,←hpo,offer_eq h he']at hm
  exact hm
section
variable {n : Net} (h : n.good) (tree : Int) {t i : Nat}
include h
theorem round_own (ht:t≤1000) (hi:i<n.bridges.length):leL (sayN n tree (t+1) i).root (sayN n tree (t+1) i).cost (idN n tree i) 0:=by
 unfold leL
 rcases round_at h tree ht hi with⟨h1,h2,_⟩|⟨e,_,h1,_,_,h2,_⟩<;>omega
theorem round_le (ht:t≤1000) (hi:i<n.bridges.length) {e:End} (he:adjN n i e):leL (sayN n tree (t+1) i).root (sayN n tree (t+1) i).cost (sayN n tree t e.other.toNat).root ((sayN n tree t e.other.toNat).cost+e.cost):=by
 have hk:=adj_ok h he
 have hc:=cost_le h tree t _ hk.2.2.1
 have ho:=round_own h tree ht hi
 by_cases hr:(sayN n tree t e.other.toNat).root<idN n tree i
 ·rcases round_at h tree ht hi with⟨_,_,_,h1⟩|⟨e0,_,h1,h2,_,_,h3⟩
  ·have:=h1 e he;omega
  ·have:=h3 e he hr
   rw[h1,h2]
   unfold Vec.le2 at this
   simp only[Vec.cmp_lt,Vec.cmp_eq]at this
   unfold leL;omega
 ·unfold leL at *;omega
theorem round_from (ht:t≤1000) (hi:i<n.bridges.length):((sayN n tree (t+1) i).root=idN n tree i∧(sayN n tree (t+1) i).cost=0)∨∃ e,adjN n i e∧(sayN n tree (t+1) i).root=(sayN n tree t e.other.toNat).root∧(sayN n tree (t+1) i).cost=(sayN n tree t e.other.toNat).cost+e.cost:=by
 rcases round_at h tree ht hi with⟨h1,h2,_⟩|⟨e,he,h1,h2,_⟩
 ·exact .inl ⟨h1,h2⟩
 ·exact .inr ⟨e,he,h1,h2⟩
theorem round_mono : ∀ {t i:Nat},t≤999→i<n.bridges.length→leL (sayN n tree (t+1) i).root (sayN n tree (t+1) i).cost (sayN n tree t i).root (sayN n tree t i).cost
 | 0,i,_,hi=>by rw[(sayN_zero hi).1,(sayN_zero hi).2];exact round_own h tree (by omega) hi
 | t+1,i,ht,hi=>by
  rcases round_from h tree (t:=t) (by omega) hi with⟨h1,h2⟩|⟨e,he,h1,h2⟩
  ·rw[h1,h2];exact round_own h tree (by omega) hi
  ·rw[h1,h2]
   exact leL_trans (round_le h tree (by omega) hi he) (leL_add _ (round_mono (by omega) (adj_ok h he).2.2.1))
theorem round_mono2 {s t i:Nat} (hst:s≤t) (ht:t≤1000) (hi:i<n.bridges.length):leL (sayN n tree t i).root (sayN n tree t i).cost (sayN n tree s i).root (sayN n tree s i).cost:=by
 induction t with
 | zero =>
      have:s=0:=by omega
      subst this;exact leL_refl _ _
 | succ t ih =>
  by_cases he:s=t+1
  ·subst he;exact leL_refl _ _
  ·exact leL_trans (round_mono h tree (by omega) hi) (ih (by omega) (by omega))
end
theorem pigeon : ∀ (k:Nat) (f:Nat→Nat),(∀ s,s≤k→f s<k)→∃ a b,a<b∧b≤k∧f a=f b
 | 0,f,h=>absurd (h 0 (Nat.le_refl _)) (by omega)
 | k+1,f,h=>by
  by_cases hx:∃ s,s≤k∧f s=f (k+1)
  ·obtain⟨s,h1,h2⟩:=hx
   exact⟨s,k+1,by omega,Nat.le_refl _,h2⟩
  ·-- the last place is struck out
   have hx':∀ s,s≤k→f s≠f (k+1):=fun s h1 h2=>hx ⟨s,h1,h2⟩
   obtain⟨a,b,h1,h2,h3⟩:=pigeon k (fun s=>if f s<f (k+1)then f s else f s-1) (fun s hs=>by
    have e1:=h s (by omega)
    have e2:=h (k+1) (Nat.le_refl _)
    have e3:=hx' s hs
    split<;>omega)
   refine⟨a,b,h1,by omega,?_⟩
   have e1:=hx' a (by omega)
   have e2:=hx' b (by omega)
   split at h3<;>split at h3<;>omega
theorem chain {n:Net} (h:n.good) (tree:Int):∀ (t i:Nat),t≤999→i<n.bridges.length→¬((sayN n tree (t+1) i).root=(sayN n tree t i).root∧(sayN n tree (t+1) i).cost=(sayN n tree t i).cost) →
  ∃ f:Nat→Nat,f (t+1)=i∧(∀ s,s≤t+1→f s<n.bridges.length)∧∀ s,s≤t→(sayN n tree (s+1) (f (s+1))).root=(sayN n tree s (f s)).root∧(sayN n tree s (f s)).cost<(sayN n tree (s+1) (f (s+1))).cost
 | t, i,ht,hi,hne=>by
  rcases round_from h tree (t:=t) (by omega) hi with⟨h1,h2⟩|⟨e,he,h1,h2⟩
  ·exfalso
   apply hne
   have m:=round_mono h tree ht hi
   have o:leL (sayN n tree t i).root (sayN n tree t i).cost (idN n tree i) 0:=by
    cases t with
    | zero=>rw[(sayN_zero hi).1,(sayN_zero hi).2];exact leL_refl _ _
    | succ t=>exact round_own h tree (by omega) hi
   rw[←h1,←h2]at o
   exact leL_anti m (by rw[h1,h2]at o ⊢;exact o)
  ·have hk:=adj_ok h he
   cases t with
   | zero =>
    refine⟨fun s=>if s=0 then e.other.toNat else i,by simp,fun s hs=>?_,fun s hs=>?_⟩
    ·show(if s=0 then _ else _)<_
     split
     ·exact hk.2.2.1
     ·exact hi
    ·have:s=0:=by omega
     subst this
     refine⟨h1,?_⟩
     show(sayN n tree 0 e.other.toNat).cost<(sayN n tree (0+1) i).cost
     omega
   | succ t =>
    have hne':¬((sayN n tree (t+1) e.other.toNat).root=(sayN n tree t e.other.toNat).root∧(sayN n tree (t+1) e.other.toNat).cost=(sayN n tree t e.other.toNat).cost):=by
     rintro⟨g1,g2⟩
     apply hne
     have m:=round_mono h tree ht hi
     have l:=round_le h tree (t:=t) (by omega) hi he
     rw[←g1,←g2,←h1,←h2]at l
     exact leL_anti m l
    obtain⟨f,f1,f2,f3⟩:=chain h tree t _ (by omega) hk.2.2.1 hne'
    refine⟨fun s=>if s=t+2 then i else f s,by simp,fun s hs=>?_,fun s hs=>?_⟩
    ·show(if s=t+2 then _ else _)<_
     split
     ·exact hi
     ·exact f2 s (by omega)
    ·show(sayN n tree (s+1) (if s+1=t+2 then i else f (s+1))).root=(sayN n tree s (if s=t+2 then i else f s)).root∧(sayN n tree s (if s=t+2 then i else f s)).cost<(sayN n tree (s+1) (if s+1=t+2 then i else f (s+1))).cost
     rw[if_neg (show ¬s=t+2 by omega)]
     by_cases hst:s=t+1
     ·subst hst
      rw[if_pos rfl,f1]
      exact⟨h1,by omega⟩
     ·rw[if_neg (by omega)]
      exact f3 s (by omega)
theorem chain_cost {D:Nat→Int} {t:Nat} (h:∀ s,s≤t→D s<D (s+1)):∀ {a b:Nat},a<b→b≤t+1→D a<D b
 | a,b+1,hab,hb=>by
  by_cases he:a=b
  ·subst he;exact h a (by omega)
  ·exact Int.lt_trans (chain_cost h (a:=a) (b:=b) (by omega) (by omega)) (h b (by omega))
theorem chain_root {R:Nat→Int} {t:Nat} (h:∀ s,s≤t→R (s+1)=R s):∀ {b:Nat},b≤t+1→R b=R 0
 | 0,_=>rfl
 | b+1,hb=>by rw[h b (by omega)];exact chain_root h (by omega)
theorem round_still {n:Net} (h:n.good) (tree:Int) {t i:Nat} (hk:n.bridges.length≤t+1) (ht:t≤999) (hi:i<n.bridges.length) :
  (sayN n tree (t+1) i).root=(sayN n tree t i).root∧(sayN n tree (t+1) i).cost=(sayN n tree t i).cost:=by
 by_cases hne:(sayN n tree (t+1) i).root=(sayN n tree t i).root∧(sayN n tree (t+1) i).cost=(sayN n tree t i).cost
 ·exact hne
 ·exfalso
  obtain⟨f,_,f2,f3⟩:=chain h tree t i ht hi hne
  obtain⟨a,b,h1,h2,h3⟩:=pigeon n.bridges.length f (fun s hs=>f2 s (by omega))
  have hc:=chain_cost (D:=fun s=>(sayN n tree s (f s)).cost) (t:=t) (fun s hs=>(f3 s hs).2) h1 (by omega)
  have r1:=chain_root (R:=fun s=>(sayN n tree s (f s)).root) (t:=t) (fun s hs=>(f3 s hs).1) (b:=a) (by omega)
  have r2:=chain_root (R:=fun s=>(sayN n tree s (f s)).root) (t:=t) (fun s hs=>(f3 s hs).1) (b:=b) (by omega)
  have m:=round_mono2 h tree (s:=a) (t:=b) (by omega) (by omega) (f2 b (by omega))
  simp only[h3]at hc r1
  rw[r2,r1]at m
  unfold leL at m
  omega
end Go.Proofs.YtcdhlofhhcgohaaGreat
