/- Books: what is found, and learnt; mathematics. -/
import Derived.Test.YtcdhlofhhcgohaaGreatxbFz
import Derived.Test.YtcdhlofhhcgohaaGreatxbLnd
import Derived.Test.YtcdhlofhhcgohaaGreatxcSrt
namespace Go.Proofs.YtcdhlofhhcgohaaGreat
open Go.RowKit
structure Ent where
 vid:Int
 addr:Int
 port:Int
 age:Int
def entV (e:Ent):List V := [.int .i64 e.vid,.int .u64 e.addr,.int .i64 e.port,.int .i64 e.age]
instance : CellsI entV 4:=⟨fun _=>rfl,fun t d h=>by
 simp only[entV,List.mem_cons,List.mem_nil_iff,or_false]at h
 rcases h with rfl|rfl|rfl|rfl<;>rfl⟩
instance : FlatI entV:=⟨fun t d h=>by
 simp only[entV,List.mem_cons,List.mem_nil_iff,or_false]at h
 rcases h with rfl|rfl|rfl|rfl<;>exact .int _ _⟩
def noEnt : Ent:=⟨0,0,0,0⟩
def Ent.bad (e:Ent):Prop:=e.vid<1∨4094<e.vid∨281474976710655<e.addr∨e.port<0∨30<e.port∨e.age<0∨300<e.age
instance (e : Ent):Decidable e.bad:=by unfold Ent.bad;infer_instance
def Ent.lt (e:Ent) (v a:Int):Prop:=e.vid<v∨e.vid=v∧e.addr<a
instance (e : Ent) (v a:Int):Decidable (e.lt v a):=by unfold Ent.lt;infer_instance
def Ent.is (e:Ent) (v a:Int):Prop:=e.vid=v∧e.addr=a
instance (e : Ent) (v a:Int):Decidable (e.is v a):=by unfold Ent.is;infer_instance
def Ent.cmp (e:Ent) (v a:Int):Int:=orI [cmpI e.vid v,cmpI e.addr a]
theorem Ent.cmp_lt (e:Ent) (v a:Int):e.cmp v a<0↔e.lt v a:=by
 unfold Ent.cmp Ent.lt
 simp only[orI,cmpI]
 repeat' split
 all_goals (first|omega|(constructor<;>intro h<;>omega))
theorem Ent.cmp_is (e:Ent) (v a:Int):e.cmp v a=0↔e.is v a:=by
 unfold Ent.cmp Ent.is
 simp only[orI,cmpI]
 repeat' split
 all_goals (first|omega|(constructor<;>intro h<;>omega))
theorem Ent.lt_trans {x y:Ent} {v a:Int} (h:x.lt y.vid y.addr) (k:y.lt v a):x.lt v a:=by unfold Ent.lt at *;omega
def bookW (last:Option Ent) (i:Nat):List Ent→Int×Nat
 | []=>(0,0)
 | e::r=>if e.bad then(3,i)else if last.any (fun p => !decide (p.lt e.vid e.addr))then(2,i)else bookW (some e) (i+1) r
def wrongB (l:List Ent):Int×Nat:=if 30<l.length then(5,0)else bookW none 0 l
structure rightB (l:List Ent):Prop where
 n:l.length≤30
 w:∀ e∈l,¬e.bad
 s:l.Pairwise (fun x y=>x.lt y.vid y.addr)
theorem bookW_zero : ∀ (l:List Ent) (last:Option Ent) (i:Nat),(bookW last i l).1=0→(∀ e∈l,¬e.bad∧∀ p,last=some p→p.lt e.vid e.addr)∧l.Pairwise (fun x y=>x.lt y.vid y.addr)
 | [],_,_,_=>by simp
 | e::r,last,i,h=>by
  rw[bookW]at h
  split at h
  ·cases h
  ·rename_i hb
   split at h
   ·cases h
   ·rename_i hl
    obtain⟨k1,k2⟩:=bookW_zero r (some e) (i+1) h
    have hp:∀ p,last=some p→p.lt e.vid e.addr:=fun p hp=>by subst hp;simpa using hl
    refine⟨fun u hu=>?_,List.pairwise_cons.2 ⟨fun u hu=>(k1 u hu).2 e rfl,k2⟩⟩
    rcases List.mem_cons.1 hu with rfl|hu
    ·exact⟨hb,hp⟩
    ·exact⟨(k1 u hu).1,fun p h=>Ent.lt_trans (hp p h) ((k1 u hu).2 e rfl)⟩
theorem right_of {l:List Ent} (h:(wrongB l).1=0):rightB l:=by
 unfold wrongB at h
 split at h
 ·cases h
 ·rename_i hn
  obtain⟨k1,k2⟩:=bookW_zero l none 0 h
  exact⟨by omega,fun e he=>(k1 e he).1,k2⟩
theorem bookW_right : ∀ (l:List Ent) (last:Option Ent) (i:Nat),(∀ e∈l,¬e.bad∧∀ p,last=some p→p.lt e.vid e.addr)→l.Pairwise (fun x y=>x.lt y.vid y.addr)→bookW last i l=(0,0)
 | [],_,_,_,_=>rfl
 | e::r,last,i,h,hs=>by
  obtain⟨h1,h2⟩:=List.pairwise_cons.1 hs
  have he:=h e (List.mem_cons.2 (.inl rfl))
  have hl:¬(last.any (fun p => !decide (p.lt e.vid e.addr))=true):=by
   cases last with
   | none=>simp
   | some p=>simpa using he.2 p rfl
  rw[bookW,if_neg he.1,if_neg hl]
  exact bookW_right r (some e) (i+1) (fun u hu=>⟨(h u (List.mem_cons.2 (.inr hu))).1,fun p hp=>by injection hp with hp;subst hp;exact h1 u hu⟩) h2
theorem right_w {l:List Ent} (h:rightB l):wrongB l=(0,0):=by
 unfold wrongB
 rw[if_neg (by have:=h.n;omega)]
 exact bookW_right l none 0 (fun e he=>⟨h.w e he,fun p hp=>by cases hp⟩) h.s
def bsG {α:Type} (c:α→Int) (d:α) (l:List α):Nat→Nat→Nat→Nat
 | 0,i,_=>i
 | f+1,i,j=>if i<j then(if c (l.getD ((i+j) / 2) d)<0 then bsG c d l f ((i+j) / 2+1) j else bsG c d l f i ((i+j) / 2))else i
theorem bsG_end {α:Type} {c:α→Int} {d:α} {l:List α} {f i j:Nat} (h:¬i<j):bsG c d l f i j=i:=by
 cases f with
 | zero=>rfl
 | succ f=>rw[bsG,if_neg h]
theorem bsG_spec {α:Type} {c:α→Int} {d:α} {l:List α} {n:Nat} (hn:∀ k,k<n→(c (l.getD k d)<0)) (hn2:∀ k,n≤k→k<l.length→¬c (l.getD k d)<0) (hnl:n≤l.length) :
  ∀ (f i j:Nat),j-i≤f→i≤n→n≤j→j≤l.length→bsG c d l f i j=n
 | 0,i,j,h1,h2,h3,h4=>by rw[bsG];omega
 | f+1,i,j,h1,h2,h3,h4=>by
  rw[bsG]
  split
  ·split
   ·rename_i hlt hc
    refine bsG_spec hn hn2 hnl f _ j (by omega) ?_ h3 h4
    by_cases hk:n≤(i+j) / 2
    ·exact absurd hc (hn2 _ hk (by omega))
    ·omega
   ·rename_i hlt hc
    refine bsG_spec hn hn2 hnl f i _ (by omega) h2 ?_ (by omega)
    by_cases hk:(i+j) / 2<n
    ·exact absurd (hn _ hk) hc
    ·omega
  ·omega
def findI (l:List Ent) (v a:Int):Nat:=bsG (fun e=>e.cmp v a) noEnt l l.length 0 l.length
def findB (l:List Ent) (v a:Int):Bool:=decide (findI l v a<l.length) && decide ((l.getD (findI l v a) noEnt).cmp v a=0)
theorem bsG_le {α:Type} {c:α→Int} {d:α} {l:List α}:∀ (f i j:Nat),i≤j→i≤bsG c d l f i j∧bsG c d l f i j≤j
 | 0,i,j,h=>by rw[bsG];omega
 | f+1,i,j,h=>by
  rw[bsG]
  split
  ·split
   ·have:=bsG_le (c:=c) (d:=d) (l:=l) f ((i+j) / 2+1) j (by omega);omega
   ·have:=bsG_le (c:=c) (d:=d) (l:=l) f i ((i+j) / 2) (by omega);omega
  ·omega
theorem findI_le (l:List Ent) (v a:Int):findI l v a≤l.length:=(bsG_le l.length 0 l.length (Nat.zero_le _)).2
def lookE (l:List Ent) (v a:Int):Int×Bool:=if findB l v a then((l.getD (findI l v a) noEnt).port,true)else(0,false)
def isGroup (a:Int):Bool:=decide (IntKind.u64.andI (IntKind.u64.shrI a 40) 1=1)
def putsB (v a p:Int):Bool:=isGroup a || decide (281474976710655<a) || decide (v<1) || decide (4094<v) || decide (p<0) || decide (30<p)
def learnL (l:List Ent) (v a p:Int):List Ent :=
 if putsB v a p then l else if findB l v a then l.set (findI l v a) ⟨v,a,p,0⟩else if l.length<30 then l.take (findI l v a)++⟨v,a,p,0⟩::l.drop (findI l v a)else l
end Go.Proofs.YtcdhlofhhcgohaaGreat
namespace Go.Proofs.YtcdhlofhhcgohaaGreat
open Go.RowKit
theorem Ent.lt_or (e:Ent) (v a:Int):e.lt v a∨e.is v a∨(v<e.vid∨v=e.vid∧a<e.addr):=by unfold Ent.lt Ent.is;omega
theorem find_split {l1 l2:List Ent} {v a:Int} (h1:∀ e∈l1,e.lt v a) (h2:∀ e∈l2,¬e.lt v a):findI (l1++l2) v a=l1.length∧findB (l1++l2) v a=l2.head?.any (fun e=>decide (e.is v a)):=by
 have hi:findI (l1++l2) v a=l1.length:=by
  refine bsG_spec (n:=l1.length) (fun k hk=>?_) (fun k hk hk2=>?_) (by simp) _ _ _ (Nat.le_refl _) (Nat.zero_le _) (by simp) (Nat.le_refl _)
  ·rw[List.getD_eq_getElem?_getD,List.getElem?_append_left hk,List.getElem?_eq_getElem hk]
   exact(Ent.cmp_lt _ _ _).2 (h1 _ (List.getElem_mem hk))
  ·rw[List.length_append]at hk2
   rw[List.getD_eq_getElem?_getD,List.getElem?_append_right hk,List.getElem?_eq_getElem (by omega),Option.getD_some,Ent.cmp_lt]
   exact h2 _ (List.getElem_mem _)
 refine⟨hi,?_⟩
 unfold findB
 rw[hi,List.getD_eq_getElem?_getD,List.getElem?_append_right (Nat.le_refl _),Nat.sub_self]
 cases l2 with
 | nil=>simp
 | cons e r =>
  simp only[List.length_append,List.length_cons,List.getElem?_cons_zero,Option.getD_some,List.head?_cons,Option.any_some,Ent.cmp_is]
  rw[decide_eq_true (by omega),Bool.true_and]
theorem sorted_split {l:List Ent} (hs:l.Pairwise (fun x y=>x.lt y.vid y.addr)) (v a:Int):∃ l1 l2,l=l1++l2∧(∀ e∈l1,e.lt v a)∧∀ e∈l2,¬e.lt v a:=by
 induction l with
 | nil=>exact⟨[],[],rfl,by simp,by simp⟩
 | cons e r ih =>
  obtain⟨h1,h2⟩:=List.pairwise_cons.1 hs
  by_cases h:e.lt v a
  ·obtain⟨l1,l2,k1,k2,k3⟩:=ih h2
   refine⟨e::l1,l2,by rw[k1];rfl,fun x hx=>?_,k3⟩
   rcases List.mem_cons.1 hx with rfl|hx
   ·exact h
   ·exact k2 x hx
  ·refine⟨[],e::r,rfl,by simp,fun x hx hlt=>?_⟩
   rcases List.mem_cons.1 hx with rfl|hx
   ·exact h hlt
   ·exact h (Ent.lt_trans (h1 x hx) hlt)
inductive See (l:List Ent) (v a:Int):Prop
 | had (l1:List Ent) (e:Ent) (r:List Ent) (h:l=l1++e::r) (h1:∀ x∈l1,x.lt v a) (he:e.is v a) (h2:∀ x∈r,e.lt x.vid x.addr)
 | new (l1 l2:List Ent) (h:l=l1++l2) (h1:∀ x∈l1,x.lt v a) (h2:∀ x∈l2,v<x.vid∨v=x.vid∧a<x.addr)
theorem see {l:List Ent} (hs:l.Pairwise (fun x y=>x.lt y.vid y.addr)) (v a:Int):See l v a:=by
 obtain⟨l1,l2,h,h1,h2⟩:=sorted_split hs v a
 cases l2 with
 | nil=>exact .new l1 [] h h1 (by simp)
 | cons e r =>
  have hs2:=(List.pairwise_append.1 (h▸hs)).2.1
  obtain⟨k1,_⟩:=List.pairwise_cons.1 hs2
  by_cases he:e.is v a
  ·exact .had l1 e r h h1 he k1
  ·refine .new l1 (e::r) h h1 (fun x hx=>?_)
   rcases Ent.lt_or x v a with q|q|q
   ·exact absurd q (h2 x hx)
   ·exfalso
    have hne:=h2 e (List.mem_cons.2 (.inl rfl))
    rcases List.mem_cons.1 hx with rfl|hx
    ·exact he q
    ·have:=k1 x hx
     unfold Ent.lt Ent.is at *
     omega
   ·exact q
theorem had_find {l1 r:List Ent} {e:Ent} {v a:Int} (h1:∀ x∈l1,x.lt v a) (he:e.is v a) (h2:∀ x∈r,e.lt x.vid x.addr):findI (l1++e::r) v a=l1.length∧findB (l1++e::r) v a=true:=by
 obtain⟨k1,k2⟩:=find_split (l2:=e::r) h1 (fun x hx=>by
  rcases List.mem_cons.1 hx with rfl|hx
  ·unfold Ent.lt Ent.is at *;omega
  ·have:=h2 x hx;unfold Ent.lt Ent.is at *;omega)
 exact⟨k1,by rw[k2];simpa using he⟩
theorem new_find {l1 l2:List Ent} {v a:Int} (h1:∀ x∈l1,x.lt v a) (h2:∀ x∈l2,v<x.vid∨v=x.vid∧a<x.addr):findI (l1++l2) v a=l1.length∧findB (l1++l2) v a=false:=by
 obtain⟨k1,k2⟩:=find_split (l2:=l2) h1 (fun x hx=>by have:=h2 x hx;unfold Ent.lt;omega)
 refine⟨k1,?_⟩
 rw[k2]
 cases l2 with
 | nil=>rfl
 | cons e r =>
  have:=h2 e (List.mem_cons.2 (.inl rfl))
  simp only[List.head?_cons,Option.any_some,decide_eq_false_iff_not]
  unfold Ent.is;omega
theorem learn_had {l1 r:List Ent} {e:Ent} {v a p:Int} (h1:∀ x∈l1,x.lt v a) (he:e.is v a) (h2:∀ x∈r,e.lt x.vid x.addr) (hp:putsB v a p=false):learnL (l1++e::r) v a p=l1++⟨v,a,p,0⟩::r:=by
 obtain⟨k1,k2⟩:=had_find h1 he h2
 unfold learnL
 rw[hp,if_neg (by simp),if_pos k2,k1]
 simp
theorem learn_new {l1 l2:List Ent} {v a p:Int} (h1:∀ x∈l1,x.lt v a) (h2:∀ x∈l2,v<x.vid∨v=x.vid∧a<x.addr) (hp:putsB v a p=false) (hn:(l1++l2).length<30):learnL (l1++l2) v a p=l1++⟨v,a,p,0⟩::l2:=by
 obtain⟨k1,k2⟩:=new_find h1 h2
 unfold learnL
 rw[hp,if_neg (by simp),k2,if_neg (by simp),if_pos hn,k1]
 simp
theorem learn_full {l1 l2:List Ent} {v a p:Int} (h1:∀ x∈l1,x.lt v a) (h2:∀ x∈l2,v<x.vid∨v=x.vid∧a<x.addr) (hn:¬(l1++l2).length<30):learnL (l1++l2) v a p=l1++l2:=by
 obtain⟨k1,k2⟩:=new_find h1 h2
 unfold learnL
 split
 ·rfl
 ·rw[k2,if_neg (by simp)]
theorem learn_puts {l:List Ent} {v a p:Int} (hp:putsB v a p=true):learnL l v a p=l:=by unfold learnL;rw[if_pos hp]
theorem puts_not {v a p:Int} (h:putsB v a p=false):isGroup a=false∧a≤281474976710655∧1≤v∧v≤4094∧0≤p∧p≤30:=by
 unfold putsB at h
 simp only[Bool.or_eq_false_iff,decide_eq_false_iff_not]at h
 obtain⟨⟨⟨⟨⟨h0,h1⟩,h2⟩,h3⟩,h4⟩,h5⟩:=h
 exact⟨h0,by omega,by omega,by omega,by omega,by omega⟩
theorem sorted_put {l1 r:List Ent} {v a p:Int} (h0:(l1++r).Pairwise (fun x y=>x.lt y.vid y.addr)) (h1:∀ x∈l1,x.lt v a) (h2:∀ x∈r,v<x.vid∨v=x.vid∧a<x.addr):(l1++(⟨v,a,p,0⟩:Ent)::r).Pairwise (fun x y=>x.lt y.vid y.addr):=by
 obtain⟨k1,k2,k3⟩:=List.pairwise_append.1 h0
 refine List.pairwise_append.2 ⟨k1,List.pairwise_cons.2 ⟨fun x hx=>h2 x hx,k2⟩,fun x hx y hy=>?_⟩
 rcases List.mem_cons.1 hy with rfl|hy
 ·exact h1 x hx
 ·exact k3 x hx y hy
theorem put_bad {v a p:Int} (h:putsB v a p=false):¬(⟨v,a,p,0⟩:Ent).bad:=by
 have:=puts_not h
 unfold Ent.bad
 simp only
 omega
theorem had_after {e:Ent} {v a:Int} {r:List Ent} (he:e.is v a) (h2:∀ x∈r,e.lt x.vid x.addr):∀ x∈r,v<x.vid∨v=x.vid∧a<x.addr:=fun x hx=>by
 have:=h2 x hx
 unfold Ent.lt Ent.is at *;omega
theorem drop_one {l1 r:List Ent} {e:Ent} (h:(l1++e::r).Pairwise (fun x y=>x.lt y.vid y.addr)):(l1++r).Pairwise (fun x y=>x.lt y.vid y.addr) :=
 h.sublist (List.append_sublist_append (List.Sublist.refl l1) (List.sublist_cons_self e r))
where List.append_sublist_append {α:Type} {a b c d:List α} (h:a.Sublist b) (k:c.Sublist d):(a++c).Sublist (b++d):=List.Sublist.append h k
theorem learn_right {l:List Ent} {v a p:Int} (h:rightB l):rightB (learnL l v a p)∧l.length≤(learnL l v a p).length∧(learnL l v a p).length≤l.length+1:=by
 by_cases hp:putsB v a p=true
 ·rw[learn_puts hp];exact⟨h,by omega,by omega⟩
 have hp:putsB v a p=false:=by simpa using hp
 have hn:=h.n
 have hm:∀ x∈l,¬x.bad:=h.w
 have hs:=h.s
 rcases see hs v a with⟨l1,e,r,rfl,h1,he,h2⟩|⟨l1,l2,rfl,h1,h2⟩
 ·rw[learn_had h1 he h2 hp]
  refine⟨⟨by simpa using hn,fun x hx=>?_,sorted_put (drop_one hs) h1 (had_after he h2)⟩,by simp,by simp⟩
  rcases List.mem_append.1 hx with hx|hx
  ·exact hm x (List.mem_append.2 (.inl hx))
  ·rcases List.mem_cons.1 hx with rfl|hx
   ·exact put_bad hp
   ·exact hm x (List.mem_append.2 (.inr (List.mem_cons.2 (.inr hx))))
 ·by_cases hf:(l1++l2).length<30
  ·rw[learn_new h1 h2 hp hf]
   rw[List.length_append]at hf
   refine⟨⟨by simp;omega,fun x hx=>?_,sorted_put hs h1 h2⟩,by simp,by simp;omega⟩
   rcases List.mem_append.1 hx with hx|hx
   ·exact hm x (List.mem_append.2 (.inl hx))
   ·rcases List.mem_cons.1 hx with rfl|hx
    ·exact put_bad hp
    ·exact hm x (List.mem_append.2 (.inr hx))
  ·rw[learn_full h1 h2 hf]
   exact⟨h,by omega,by omega⟩
def lookS (l:List Ent) (v a:Int):Int×Bool:=match l.find? (fun e=>decide (e.is v a))with|some e=>(e.port,true)|none=>(0,false)
theorem find_none {l:List Ent} {v a:Int} (h:∀ x∈l,¬x.is v a):l.find? (fun e=>decide (e.is v a))=none:=by
 rw[List.find?_eq_none]
 intro x hx
 simpa using h x hx
theorem lt_isnt {x:Ent} {v a:Int} (h:x.lt v a):¬x.is v a:=by unfold Ent.lt Ent.is at *;omega
theorem look_had {l1 r:List Ent} {e:Ent} {v a:Int} (h1:∀ x∈l1,¬x.is v a) (he:e.is v a):lookS (l1++e::r) v a=(e.port,true):=by
 unfold lookS
 rw[List.find?_append,find_none h1]
 simp[he]
theorem look_new {l:List Ent} {v a:Int} (h1:∀ x∈l,¬x.is v a):lookS l v a=(0,false):=by
 unfold lookS
 rw[find_none h1]
theorem look_eq {l:List Ent} (hs:l.Pairwise (fun x y=>x.lt y.vid y.addr)) (v a:Int):lookE l v a=lookS l v a:=by
 rcases see hs v a with⟨l1,e,r,rfl,h1,he,h2⟩|⟨l1,l2,rfl,h1,h2⟩
 ·obtain⟨k1,k2⟩:=had_find h1 he h2
  rw[look_had (fun x hx=>lt_isnt (h1 x hx)) he]
  unfold lookE
  rw[if_pos k2,k1]
  simp
 ·obtain⟨k1,k2⟩:=new_find h1 h2
  rw[look_new (fun x hx=>by
   rcases List.mem_append.1 hx with hx|hx
   ·exact lt_isnt (h1 x hx)
   ·have:=h2 x hx;unfold Ent.is;omega)]
  unfold lookE
  rw[k2,if_neg (by simp)]
theorem lookS_other {l1 r:List Ent} {e:Ent} {v b:Int} (he:¬e.is v b):lookS (l1++e::r) v b=lookS (l1++r) v b:=by
 unfold lookS
 rw[List.find?_append,List.find?_append,List.find?_cons]
 simp[he]
theorem learn_other {l:List Ent} {v a b p:Int} (hs:l.Pairwise (fun x y=>x.lt y.vid y.addr)) (hb:b≠a):lookS (learnL l v a p) v b=lookS l v b:=by
 have hne:¬(⟨v,a,p,0⟩:Ent).is v b:=by unfold Ent.is;simp only;omega
 by_cases hp:putsB v a p=true
 ·rw[learn_puts hp]
 have hp:putsB v a p=false:=by simpa using hp
 rcases see hs v a with⟨l1,e,r,rfl,h1,he,h2⟩|⟨l1,l2,rfl,h1,h2⟩
 ·rw[learn_had h1 he h2 hp,lookS_other hne,lookS_other (by unfold Ent.is at *;omega)]
 ·by_cases hf:(l1++l2).length<30
  ·rw[learn_new h1 h2 hp hf,lookS_other hne]
  ·rw[learn_full h1 h2 hf]
end Go.Proofs.YtcdhlofhhcgohaaGreat
