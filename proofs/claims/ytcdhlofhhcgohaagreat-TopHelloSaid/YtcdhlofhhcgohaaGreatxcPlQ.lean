/- The document's ports of a bridge are the plan's: mathematics. -/
import Derived.Test.YtcdhlofhhcgohaaGreatxcPlX
namespace Go.Proofs.YtcdhlofhhcgohaaGreat
def sF (n:Net) (tree:Int) (i:Nat):Vec:=sayN n tree (n.bridges.length+1) i
def pF (n:Net) (tree:Int) (i:Nat):Int:=(chN n tree n.bridges.length i).port
def roleF (n:Net) (tree:Int) (i:Nat) (p:Int):Int :=
 if(endsOf n i).any (fun e=>decide (e.port=p))then roleOf (sF n tree i) (pF n tree i) p (offersOf (endsOf n i) (saysN n tree (n.bridges.length+1)))else 0
theorem place_eq {n:Net} {tree:Int} {i:Nat} (hi:i<n.bridges.length):placeOf n tree i=⟨sF n tree i,pF n tree i,portsOf n.links i,(portsOf n.links i).map (roleF n tree i)⟩:=by
 have hb:=List.getElem?_eq_getElem hi
 have hp:((rootN n tree)[i]?).getD 0=pF n tree i:=by
  unfold rootN pF chN
  simp[hi,nextS,idN_of hb]
 unfold placeOf
 simp only[hp]
 rfl
theorem plan_get {n:Net} {tree:Int} {i:Nat} (hi:i<n.bridges.length):(planF n tree)[i]? = some ⟨sF n tree i,pF n tree i,portsOf n.links i,(portsOf n.links i).map (roleF n tree i)⟩:=by
 unfold planF
 simp[hi,place_eq hi]
theorem plan_len (n:Net) (tree:Int):(planF n tree).length=n.bridges.length:=by simp[planF]
theorem sF_ids {n:Net} {tree:Int} {i:Nat} (hi:i<n.bridges.length):(sF n tree i).bridge=idN n tree i∧(sF n tree i).port=0:=sayN_ids hi
section
variable {n : Net} (h : n.good) (tree : Int)
include h
theorem fin_same {i:Nat} (hi:i<n.bridges.length):(sayN n tree n.bridges.length i).root=(sF n tree i).root∧(sayN n tree n.bridges.length i).cost=(sF n tree i).cost:=by
 have:=round_still h tree (t:=n.bridges.length) (by omega) (by have:=h.nb;omega) hi
 exact⟨this.1.symm,this.2.symm⟩
theorem fin_list : saysN n tree (n.bridges.length+1)=saysN n tree n.bridges.length:=by
 apply List.ext_getElem?
 intro i
 by_cases hi:i<n.bridges.length
 ·rw[sayN_get hi,sayN_get hi]
  congr 1
  obtain⟨h1,h2⟩:=fin_same h tree hi
  obtain⟨h3,h4⟩:=sayN_ids (tree:=tree) (t:=n.bridges.length) hi
  obtain⟨h5,h6⟩:=sF_ids (tree:=tree) hi
  exact Vec.ext4 h1.symm h2.symm (h5.trans h3.symm) (h6.trans h4.symm)
 ·rw[List.getElem?_eq_none (by rw[saysN_len];omega),List.getElem?_eq_none (by rw[saysN_len];omega)]
theorem fin_cost {i:Nat} (hi:i<n.bridges.length):0≤(sF n tree i).cost∧(sF n tree i).cost≤2600000:=by
 have:=cost_le h tree (n.bridges.length+1) i hi
 have:=h.nb
 unfold sF;omega
theorem fin_at {i:Nat} (hi:i<n.bridges.length) :
  ((sF n tree i).root=idN n tree i∧(sF n tree i).cost=0∧pF n tree i = -1∧∀ e,adjN n i e→idN n tree i≤(sF n tree e.other.toNat).root) ∨
  ∃ e,adjN n i e∧(sF n tree i).root=(sF n tree e.other.toNat).root∧(sF n tree i).cost=(sF n tree e.other.toNat).cost+e.cost∧pF n tree i=e.port∧(sF n tree e.other.toNat).root<idN n tree i ∧
   ∀ e',adjN n i e'→(sF n tree e'.other.toNat).root<idN n tree i →
    Vec.le2 ⟨(sF n tree e.other.toNat).root,(sF n tree e.other.toNat).cost+e.cost,idN n tree e.other.toNat,e.oport⟩ e.port ⟨(sF n tree e'.other.toNat).root,(sF n tree e'.other.toNat).cost+e'.cost,idN n tree e'.other.toNat,e'.oport⟩ e'.port:=by
 have hnb:=h.nb
 rcases round_at h tree (t:=n.bridges.length) (by omega) hi with⟨h1,h2,h3,h4⟩|⟨e,he,h1,h2,h3,h4,h5⟩
 ·refine .inl ⟨h1,h2,h3,fun e he=>?_⟩
  rw[←(fin_same h tree (adj_ok h he).2.2.1).1];exact h4 e he
 ·have hs:=fin_same h tree (adj_ok h he).2.2.1
  rw[hs.1]at h1 h4
  rw[hs.2]at h2
  refine .inr ⟨e,he,h1,h2,h3,h4,fun e' he' hr=>?_⟩
  have hs':=fin_same h tree (adj_ok h he').2.2.1
  have:=h5 e' he' (by rw[hs'.1];exact hr)
  rw[hs.1,hs.2,hs'.1,hs'.2]at this
  exact this
theorem fin_own {i:Nat} (hi:i<n.bridges.length):leL (sF n tree i).root (sF n tree i).cost (idN n tree i) 0:=round_own h tree (by have:=h.nb;omega) hi
theorem fin_le {i:Nat} (hi:i<n.bridges.length) {e:End} (he:adjN n i e):leL (sF n tree i).root (sF n tree i).cost (sF n tree e.other.toNat).root ((sF n tree e.other.toNat).cost+e.cost):=by
 have hs:=fin_same h tree (adj_ok h he).2.2.1
 have:=round_le h tree (t:=n.bridges.length) (by have:=h.nb;omega) hi he
 rw[hs.1,hs.2]at this
 exact this
theorem fin_root {i:Nat} (hi:i<n.bridges.length) {e:End} (he:adjN n i e):(sF n tree i).root=(sF n tree e.other.toNat).root:=by
 have h1:=fin_le h tree hi he
 have hk:=adj_ok h he
 have h2:=fin_le h tree hk.2.2.1 (adj_sym h he)
 rw[show((i:Nat):Int).toNat=i from rfl]at h2
 unfold leL at *
 omega
end
theorem adj_of_live {n:Net} {l:Link} (h:n.good) (hl:l∈liveL n):adjN n l.a.toNat ⟨l.pa,l.cost,l.b,l.pb⟩∧adjN n l.b.toNat ⟨l.pb,l.cost,l.a,l.pa⟩:=by
 have hk:=h.lk l (live_sub hl)
 have:=hk.a0;have:=hk.b0
 unfold adjN rawE endAt
 refine⟨List.mem_flatMap.2 ⟨l,hl,List.mem_append.2 (.inl ?_)⟩,List.mem_flatMap.2 ⟨l,hl,List.mem_append.2 (.inr ?_)⟩⟩
 ·rw[if_pos (by omega)];exact List.mem_singleton.2 rfl
 ·rw[if_pos (by omega)];exact List.mem_singleton.2 rfl
theorem port_mem {n:Net} {l:Link} (_h:n.good) (hl:l∈n.links):l.pa∈portsOf n.links l.a∧l.pb∈portsOf n.links l.b:=by
 rw[portsOf_eq,portsOf_eq]
 unfold sortI rawP portAt
 rw[List.mem_mergeSort,List.mem_mergeSort]
 refine⟨List.mem_flatMap.2 ⟨l,hl,List.mem_append.2 (.inl ?_)⟩,List.mem_flatMap.2 ⟨l,hl,List.mem_append.2 (.inr ?_)⟩⟩
 ·rw[if_pos rfl];exact List.mem_singleton.2 rfl
 ·rw[if_pos rfl];exact List.mem_singleton.2 rfl
end Go.Proofs.YtcdhlofhhcgohaaGreat
namespace Go.Proofs.YtcdhlofhhcgohaaGreat
def placeC (id:Int) (ends:List End) (ps:List Int) (v:Vec) (s0 s1:List Vec):Place:=⟨v,(chooseS id (offersOf ends s0)).port,ps,rolesP ends v (chooseS id (offersOf ends s0)).port (offersOf ends s1) ps⟩
def insE (e:End):List End→List End
 | []=>[e]
 | x::r=>if e.port≤x.port then e::x::r else x::insE e r
def isoE : List End→List End
 | []=>[]
 | e::r=>insE e (isoE r)
def insP (e:Int):List Int→List Int
 | []=>[e]
 | x::r=>if e≤x then e::x::r else x::insP e r
def isoP : List Int→List Int
 | []=>[]
 | e::r=>insP e (isoP r)
theorem insE_perm (e:End):∀ l,(insE e l).Perm (e::l)
 | []=>.refl _
 | x::r=>by
  unfold insE
  split
  ·exact .refl _
  ·exact((insE_perm e r).cons x).trans (.swap e x r)
theorem isoE_perm : ∀ l,(isoE l).Perm l
 | []=>.refl _
 | e::r=>(insE_perm e _).trans ((isoE_perm r).cons e)
theorem insE_sorted {e:End}:∀ {l:List End},l.Pairwise (fun a b=>a.port≤b.port)→(insE e l).Pairwise (fun a b=>a.port≤b.port)
 | [],_=>by simp[insE]
 | x::r,h=>by
  unfold insE
  obtain⟨h1,h2⟩:=List.pairwise_cons.1 h
  split
  ·rename_i hx
   refine List.pairwise_cons.2 ⟨fun y hy=>?_,h⟩
   rcases List.mem_cons.1 hy with rfl|hy
   ·exact hx
   ·exact Int.le_trans hx (h1 y hy)
  ·rename_i hx
   refine List.pairwise_cons.2 ⟨fun y hy=>?_,insE_sorted h2⟩
   rcases List.mem_cons.1 ((insE_perm e r).mem_iff.1 hy)with rfl|hy
   ·omega
   ·exact h1 y hy
theorem isoE_sorted : ∀ l,(isoE l).Pairwise (fun a b=>a.port≤b.port)
 | []=>.nil
 | _e::r=>insE_sorted (isoE_sorted r)
theorem sortE_iso {l:List End} (h:∀ x∈l,∀ y∈l,x.port=y.port→x=y):sortE l=isoE l:=by
 unfold sortE
 refine List.Perm.eq_of_pairwise (le:=fun a b:End=>a.port≤b.port) (fun a b ha hb h1 h2=>?_) ?_ (isoE_sorted l) ((List.mergeSort_perm l _).trans (isoE_perm l).symm)
 ·exact h a (List.mem_mergeSort.1 ha) b ((isoE_perm l).mem_iff.1 hb) (by omega)
 ·have:=List.pairwise_mergeSort (le:=fun x y:End=>decide (x.port≤y.port)) (fun a b c h1 h2=>by simp at *;omega) (fun a b=>by simp;omega) l
  exact this.imp fun h=>by simpa using h
theorem insP_perm (e:Int):∀ l,(insP e l).Perm (e::l)
 | []=>.refl _
 | x::r=>by
  unfold insP
  split
  ·exact .refl _
  ·exact((insP_perm e r).cons x).trans (.swap e x r)
theorem isoP_perm : ∀ l,(isoP l).Perm l
 | []=>.refl _
 | e::r=>(insP_perm e _).trans ((isoP_perm r).cons e)
theorem insP_sorted {e:Int}:∀ {l:List Int},l.Pairwise (· ≤ ·)→(insP e l).Pairwise (· ≤ ·)
 | [],_=>by simp[insP]
 | x::r,h=>by
  unfold insP
  obtain⟨h1,h2⟩:=List.pairwise_cons.1 h
  split
  ·rename_i hx
   refine List.pairwise_cons.2 ⟨fun y hy=>?_,h⟩
   rcases List.mem_cons.1 hy with rfl|hy
   ·exact hx
   ·exact Int.le_trans hx (h1 y hy)
  ·rename_i hx
   refine List.pairwise_cons.2 ⟨fun y hy=>?_,insP_sorted h2⟩
   rcases List.mem_cons.1 ((insP_perm e r).mem_iff.1 hy)with rfl|hy
   ·omega
   ·exact h1 y hy
theorem isoP_sorted : ∀ l,(isoP l).Pairwise (· ≤ ·)
 | []=>.nil
 | _e::r=>insP_sorted (isoP_sorted r)
theorem sortI_iso (l:List Int):sortI l=isoP l:=by
 unfold sortI
 refine List.Perm.eq_of_pairwise (le:=fun a b:Int=>a≤b) (fun a b _ _ h1 h2=>by omega) ?_ (isoP_sorted l) ((List.mergeSort_perm l _).trans (isoP_perm l).symm)
 have:=List.pairwise_mergeSort (le:=fun x y:Int=>decide (x≤y)) (fun a b c h1 h2=>by simp at *;omega) (fun a b=>by simp;omega) l
 exact this.imp fun h=>by simpa using h
theorem liveL_one {n:Net} (r:Region) (hr:∀ b∈n.bridges,b.region=r) (hk:∀ l∈n.links,l.a.toNat<n.bridges.length∧l.b.toNat<n.bridges.length):liveL n=n.links.filter (·.up):=by
 unfold liveL
 apply List.filter_congr
 intro l hl
 obtain⟨h1,h2⟩:=hk l hl
 unfold liveB
 have e:(idsR n.bridges)[l.a.toNat]? = (idsR n.bridges)[l.b.toNat]? := by
  unfold idsR
  rw[List.getElem?_map,List.getElem?_map,List.getElem?_eq_getElem h1,List.getElem?_eq_getElem h2,Option.map_some,Option.map_some,hr _ (List.getElem_mem h1),hr _ (List.getElem_mem h2)]
 rw[decide_eq_true e,Bool.and_true]
theorem ends_iso {n:Net} (h:n.good) (i:Nat):endsOf n i=isoE (rawE (liveL n) i):=sortE_iso fun _ hx _ hy hp=>h.end_one hx hy hp
theorem ports_iso (ls:List Link) (i:Int):portsOf ls i=isoP (rawP ls i):=by rw[portsOf_eq];exact sortI_iso _
end Go.Proofs.YtcdhlofhhcgohaaGreat
namespace Go.Proofs.YtcdhlofhhcgohaaGreat
open Go.RowKit
def gv (g:List Int) (i:Nat):Int:=(g[i]?).getD 0
def inK (k:Nat) (ls:List Link):Prop:=∀ l∈ls,l.a.toNat<k∧l.b.toNat<k∧l.a.toNat≠l.b.toNat∧1≤l.cost
inductive Conn (ls:List Link):Nat→Nat→Prop
 | refl (i:Nat):Conn ls i i
 | ab {i:Nat} {l:Link} (h:Conn ls i l.a.toNat) (hl:l∈ls):Conn ls i l.b.toNat
 | ba {i:Nat} {l:Link} (h:Conn ls i l.b.toNat) (hl:l∈ls):Conn ls i l.a.toNat
theorem Conn.trans {ls:List Link} {i j k:Nat} (h:Conn ls i j) (h2:Conn ls j k):Conn ls i k:=by
 induction h2 with
 | refl=>exact h
 | ab _ hl ih=>exact .ab ih hl
 | ba _ hl ih=>exact .ba ih hl
theorem Conn.symm {ls:List Link} {i j:Nat} (h:Conn ls i j):Conn ls j i:=by
 induction h with
 | refl=>exact .refl _
 | @ab l _ hl ih=>exact Conn.trans (.ba (.refl l.b.toNat) hl) ih
 | @ba l _ hl ih=>exact Conn.trans (.ab (.refl l.a.toNat) hl) ih
def labelled (ls:List Link) (k:Nat) (g:List Int):Prop:=∀ i,i<k→∃ m:Nat,gv g i=m∧m<k∧Conn ls m i
theorem countP_lt {α:Type} {p q:α→Bool}:∀ {l:List α},(∀ x∈l,p x=true→q x=true)→(∃ x∈l,p x=false∧q x=true)→l.countP p<l.countP q
 | [],_,h=>by obtain⟨x,hx,_⟩:=h;cases hx
 | a::r,h,h2=>by
  have hr:r.countP p≤r.countP q:=List.countP_mono_left fun x hx=>h x (List.mem_cons_of_mem _ hx)
  obtain⟨x,hx,hp,hq⟩:=h2
  rw[List.countP_cons,List.countP_cons]
  rcases List.mem_cons.1 hx with rfl|hx
  ·rw[hp,hq];simp;omega
  ·have:=countP_lt (fun x hx=>h x (List.mem_cons_of_mem _ hx)) ⟨x,hx,hp,hq⟩
   have ha:=h a (List.mem_cons_self ..)
   by_cases hpa:p a=true
   ·rw[hpa,ha hpa];simp;omega
   ·rw[Bool.eq_false_iff.2 hpa];simp;omega
section
variable {ls : List Link} {k : Nat} {g : List Int} (hlen : g.length = k) (hK : inK k ls) (hg : labelled ls k g)
include hlen hK hg
end
end Go.Proofs.YtcdhlofhhcgohaaGreat
namespace Go.Proofs.YtcdhlofhhcgohaaGreat
open Go.RowKit
theorem live_in {n:Net} (h:n.good):inK n.bridges.length (liveL n):=fun l hl=>by
 have hk:=h.lk l (live_sub hl)
 have:=hk.a0;have:=hk.a1;have:=hk.b0;have:=hk.b1;have:=hk.ne;have:=hk.c
 exact⟨by omega,by omega,by omega,by omega⟩
def costN (n:Net) (tree:Int) (i:Nat):Int:=(sF n tree i).cost
theorem live_cost {n:Net} (h:n.good) (tree:Int) {l:Link} (hl:l∈liveL n):(sF n tree l.a.toNat).root=(sF n tree l.b.toNat).root∧costN n tree l.a.toNat≤costN n tree l.b.toNat+l.cost∧costN n tree l.b.toNat≤costN n tree l.a.toNat+l.cost:=by
 obtain⟨ha,hb,_⟩:=live_in h l hl
 obtain⟨a1,a2⟩:=adj_of_live h hl
 have r1:=fin_root h tree ha a1
 have l1:=fin_le h tree ha a1
 have l2:=fin_le h tree hb a2
 simp only at r1 l1 l2
 unfold leL at l1 l2
 unfold costN
 exact⟨r1,by omega,by omega⟩
theorem conn_root {n:Net} (h:n.good) (tree:Int) {i j:Nat} (hc:Conn (liveL n) i j):(sF n tree i).root=(sF n tree j).root:=by
 induction hc with
 | refl=>rfl
 | ab _ hl ih=>exact ih.trans (live_cost h tree hl).1
 | ba _ hl ih=>exact ih.trans (live_cost h tree hl).1.symm
theorem adj_conn {n:Net} (_h:n.good) {i:Nat} {e:End} (he:adjN n i e):Conn (liveL n) i e.other.toNat∧∃ l∈liveL n,l.cost=e.cost∧((l.a.toNat=i∧l.b.toNat=e.other.toNat)∨(l.b.toNat=i∧l.a.toNat=e.other.toNat)):=by
 unfold adjN rawE endAt at he
 obtain⟨l,hl,he⟩:=List.mem_flatMap.1 he
 rcases List.mem_append.1 he with he|he
 ·split at he
  ·rename_i ha
   simp only[List.mem_singleton]at he;subst he
   have:l.a.toNat=i:=by omega
   refine⟨?_,l,hl,rfl,.inl ⟨this,rfl⟩⟩
   subst this
   exact .ab (.refl _) hl
  ·cases he
 ·split at he
  ·rename_i ha
   simp only[List.mem_singleton]at he;subst he
   have:l.b.toNat=i:=by omega
   refine⟨?_,l,hl,rfl,.inr ⟨this,rfl⟩⟩
   subst this
   exact .ba (.refl _) hl
  ·cases he
theorem fin_thereC {n:Net} (h:n.good) (tree:Int):∀ (c:Nat) {i:Nat},i<n.bridges.length→(sF n tree i).cost≤c→∃ r,r<n.bridges.length∧Conn (liveL n) i r∧idN n tree r=(sF n tree i).root
 | c,i,hi,hc=>by
  rcases fin_at h tree hi with⟨h1,_⟩|⟨e,he,h1,h2,h3,h4,_⟩
  ·exact⟨i,hi,.refl i,h1.symm⟩
  ·have hk:=adj_ok h he
   have hcj:=fin_cost h tree hk.2.2.1
   match c,hc with
   | 0,hc=>exfalso;have:=hcj.1;simp only[Int.natCast_zero]at hc;omega
   | c+1,hc =>
    obtain⟨r,r1,r2,r3⟩:=fin_thereC h tree c hk.2.2.1 (by omega)
    exact⟨r,r1,(adj_conn h he).1.trans r2,by rw[r3,h1]⟩
end Go.Proofs.YtcdhlofhhcgohaaGreat
namespace Go.Proofs.YtcdhlofhhcgohaaGreat
open Go.RowKit
def hitL (b p:Int) (l:Link):Bool:=(decide (l.a=b) && decide (l.pa=p)) || (decide (l.b=b) && decide (l.pb=p))
def portsU (ls:List Link) (b:Int) (P:Nat):List Int:=(List.range P).flatMap fun q:Nat=>(ls.filter (hitL b ((q:Int)+1))).map fun _=>(q:Int)+1
theorem portsU_succ (ls:List Link) (b:Int) (P:Nat):portsU ls b (P+1)=portsU ls b P++(ls.filter (hitL b ((P:Int)+1))).map fun _=>(P:Int)+1:=by
 unfold portsU
 rw[List.range_succ,List.flatMap_append]
 simp
theorem portsU_mem {ls:List Link} {b:Int}:∀ {P:Nat} {x:Int},x∈portsU ls b P→1≤x∧x≤P
 | 0,x,h=>by simp[portsU]at h
 | P+1,x,h=>by
  rw[portsU_succ]at h
  rcases List.mem_append.1 h with h|h
  ·have:=portsU_mem h;omega
  ·obtain⟨_,_,rfl⟩:=List.mem_map.1 h;omega
theorem portsU_sorted (ls:List Link) (b:Int):∀ P,(portsU ls b P).Pairwise (· ≤ ·)
 | 0=>by simp[portsU]
 | P+1=>by
  rw[portsU_succ]
  refine List.pairwise_append.2 ⟨portsU_sorted ls b P,?_,fun x hx y hy=>?_⟩
  ·rw[List.pairwise_map];exact List.pairwise_of_forall (fun _ _=>Int.le_refl _)
  ·obtain⟨_,_,rfl⟩:=List.mem_map.1 hy
   have:=portsU_mem hx;omega
theorem portsU_len (ls:List Link) (b:Int):∀ P,(portsU ls b P).length≤P*ls.length
 | 0=>by simp[portsU]
 | P+1=>by
  have h1:=portsU_len ls b P
  have h2:=List.length_filter_le (hitL b ((P:Int)+1)) ls
  rw[portsU_succ,List.length_append,List.length_map,Nat.succ_mul]
  omega
theorem flatMap_two {α β:Type} (f g:α→List β):∀ l:List α,(l.flatMap fun x=>f x++g x).Perm (l.flatMap f++l.flatMap g)
 | []=>by simp
 | a::r=>by
  have ih:=flatMap_two f g r
  simp only[List.flatMap_cons]
  have h1:(f a++g a++(r.flatMap fun x=>f x++g x)).Perm (f a++g a++(r.flatMap f++r.flatMap g)):=List.Perm.append_left _ ih
  refine h1.trans ?_
  rw[List.append_assoc,List.append_assoc]
  refine List.Perm.append_left _ ?_
  rw[←List.append_assoc,←List.append_assoc]
  exact List.Perm.append_right _ List.perm_append_comm
theorem flatMap_hit {c:Int}:∀ (P:Nat),(List.range P).flatMap (fun q:Nat=>if c=(q:Int)+1 then [(q:Int)+1]else [])=if 1≤c∧c≤P then [c]else []
 | 0=>by rw[if_neg (by omega)];rfl
 | P+1=>by
  rw[List.range_succ,List.flatMap_append,flatMap_hit P]
  simp only[List.flatMap_cons,List.flatMap_nil,List.append_nil]
  by_cases h:c=(P:Int)+1
  ·rw[if_neg (by omega),if_pos h,if_pos (by omega),h];rfl
  ·rw[if_neg h,List.append_nil]
   by_cases h2:1≤c∧c≤P
   ·rw[if_pos h2,if_pos (by omega)]
   ·rw[if_neg h2,if_neg (by omega)]
theorem hit_one {k:Nat} {l:Link} (h:l.ok k) (b:Int):(List.range 30).flatMap (fun q:Nat=>if hitL b ((q:Int)+1) l=true then [(q:Int)+1]else [])=portAt b l:=by
 have hpa:=h.pa
 have hpb:=h.pb
 have hne:=h.ne
 unfold portAt hitL
 by_cases ha:l.a=b
 ·have hb:¬l.b=b:=by omega
  rw[if_pos ha,if_neg hb,List.append_nil]
  have:=flatMap_hit (c:=l.pa) 30
  rw[if_pos (by omega)]at this
  rw[←this]
  congr 1
  funext q
  simp[ha,hb]
 ·rw[if_neg ha,List.nil_append]
  by_cases hb:l.b=b
  ·rw[if_pos hb]
   have:=flatMap_hit (c:=l.pb) 30
   rw[if_pos (by omega)]at this
   rw[←this]
   congr 1
   funext q
   simp[ha,hb]
  ·rw[if_neg hb]
   simp[ha,hb]
theorem portsU_perm {k:Nat} (b:Int):∀ {ls:List Link},(∀ l∈ls,l.ok k)→(portsU ls b 30).Perm (rawP ls b)
 | [],_=>by
  have:portsU [] b 30=[]:=by simp[portsU]
  rw[this];exact List.Perm.refl _
 | l::r,h=>by
  have h1:portsU (l::r) b 30=(List.range 30).flatMap fun q:Nat=>(if hitL b ((q:Int)+1) l=true then [(q:Int)+1]else [])++((r.filter (hitL b ((q:Int)+1))).map fun _=>(q:Int)+1):=by
   unfold portsU
   congr 1
   funext q
   rw[List.filter_cons]
   split<;>simp
  rw[h1]
  refine(flatMap_two _ _ _).trans ?_
  rw[hit_one (h l (List.mem_cons_self ..)) b]
  exact List.Perm.append_left _ (portsU_perm b fun x hx=>h x (List.mem_cons_of_mem _ hx))
theorem portsU_eq {k:Nat} (b:Int) {ls:List Link} (h:∀ l∈ls,l.ok k):portsU ls b 30=portsOf ls b:=by
 rw[ports_iso]
 exact List.Perm.eq_of_pairwise (le:=fun a b:Int=>a≤b) (fun a b _ _ h1 h2=>by omega) (portsU_sorted ls b 30) (isoP_sorted _) ((portsU_perm b h).trans (isoP_perm _).symm)
end Go.Proofs.YtcdhlofhhcgohaaGreat
